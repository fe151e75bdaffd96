/-
  THE PURE EXECUTOR: loads, new blocks, writes, appends, beside the executor's.;THE PURE EXECUTOR: which operation gives which kind of result;new blocks, writes, appends.;THE PURE EXECUTOR: new blocks, writes, appends, beside the executor's.;THE PURE EXECUTOR: writes and appends, beside the executor's.
-/
import Derived.Test.YtadehgdfijjikaaGreatDoorY4
set_option linter.all false
namespace Go.Yec
open Go Go.Xec
variable [GT]
section
variable {D:Type} {V:D->List (PV D)} {μ:Mu} {H:Hp} {P:Program} {o:Oper} {T:Tm} {ρ:Yd->PV D} {X:Nat->Prop} {B:Bt D} {m n:Nat}
theorem HR.cells (hr:HR V X μ B m H n){i s:Nat}{l:List (PV D)}(hb:bget B i=some (s, .cells l)):∃ x len xl e, μ i=some (some x,len)/\hget H x=some (.cells xl e)/\RepL V μ H (MX X μ B) l xl:=by
  obtain ⟨_,ox,len,h1,h2⟩:=hr.blk i s _ hb;cases h2 with
  | cells x _ _ xl e h hl=>exact ⟨x,len,xl,e,h1,h,hl⟩
theorem mu_eq {i x x' len len':Nat}{μ:Mu}(h:μ i=some (some x,len))(h':μ i=some (some x',len')):x=x'/\len=len':=by
  rw [h] at h';cases h';exact ⟨rfl,rfl⟩
def LdR (P:Program)(o:Oper)(T:Tm)(V:D->List (PV D))(μ:Mu)(H:Hp)(M:Nat->Prop)(src:Option Nat)(v:PV D):Prop :=
  ∃ w,Rep V μ H M v w/\∀ H2 n2,(∀ i x len,src=some i->μ i=some (some x,len)->hget H2 x=hget H x)->(x0N P o).f T H2 n2 = .ok w H2 n2
variable (hρ:OpdR V μ H (MX X μ B) T ρ) (hr:HR V X μ B m H n)
include hρ hr
theorem load_got {t:TypeId}{a:Operand}(ho:o.op = .load t a){q:YOp}(hc:x1Z P (.load t a)=some q){src:Option Nat}{v:PV D}(h:opR B ρ q = .ld src v):LdR P o T V μ H (MX X μ B) src v:=by
  obtain ⟨d,hd,h2⟩:=x0A hc;obtain ⟨k,hk,h3⟩:=x0A h2;obtain ⟨y,hy,rfl⟩:=x0G h3;have h:ldR B k (x2C (P.underlying t)) (ρ y) = .ld src v:=h;have aj:=hρ a y hy;have bu:∀ H2 n2,(x0N P o).f T H2 n2=(z8R P t a).f T H2 n2:=fun H2 n2=>by unfold x0N;rw [ho]
  unfold ldR at h;split at h
  . rename_i i off hb;rw [hb] at aj;split at h
    . rename_i s l bI;obtain ⟨u,hu,h4⟩:=x0Y (z:=(OpR.bad:OpR D)) h (by simp)
      cases h4;obtain ⟨x,len,xl,e,h5,h6,h7⟩:=hr.cells bI;obtain ⟨x',len',h8,h9⟩:=y0G aj;obtain ⟨rfl,rfl⟩:=mu_eq h5 h8;obtain ⟨w,aH,bK⟩:=y6H hu h7;refine ⟨w,bK,fun H2 n2 hs=>?_⟩;have hg:x0Z H2 x=some (xl,e):=by
        show cellsOf (hget H2 x)=_;rw [hs i x len rfl h5,h6];rfl
      rw [bu];unfold z8R;cases aF:x2C (P.underlying t) with
      | true =>
        rw [aF] at aH;rw [cond_true,hk];show x6R (ev T a) (fun a=>onO (x0Z H2 a.block) fun p=>onO (cut p.1 a.off k) fun r=> .ok (x5Z r) H2 n2)=_;rw [h9];show onO (x0Z H2 x) _=_;rw [hg];show onO (cut xl off k) _=_;obtain ⟨r,cX,gj⟩:=x0C (o:=cut xl off k) aH;rw [cX];show OR.ok (x5Z r) H2 n2=_;rw [gj]
      | false =>
        rw [aF] at aH;rw [cond_false,hd];show x6R (ev T a) (fun a=>onO (x0Z H2 a.block) fun p=>onO (lget p.1 a.off) fun v=> .ok v H2 n2)=_;rw [h9];show onO (x0Z H2 x) _=_;rw [hg];show onO (lget xl off) _=_;have aH:lget xl off=some w:=aH;rw [aH];rfl
    . cases h
  . rename_i i ix hb;rw [hb] at aj;split at h
    . rename_i s e k' l bI;cases aF:x2C (P.underlying t) with
      | true=>rw [aF] at h;cases h
      | false =>
        rw [aF] at h;cases h;generalize hz:ev T a=z at aj;cases aj with
        | lelt _ _ x len hm h0 ai =>
          obtain ⟨_,ox,len',h1,h2⟩:=hr.blk i s _ bI;rw [hm] at h1;cases h1;cases h2 with
          | rowI _ _ _ _ hg =>
            refine ⟨_, .int _ _,fun H2 n2 hs=>?_⟩;have iN:x0Z H2 x=some (l.map (Value.int k'),e):=by
              show cellsOf (hget H2 x)=_;rw [hs i x _ rfl hm,hg];rfl
            rw [bu];unfold z8R;rw [aF,cond_false,hd];show x6R (ev T a) (fun a=>onO (x0Z H2 a.block) fun p=>onO (lget p.1 a.off) fun v=> .ok v H2 n2)=_;rw [hz];show onO (x0Z H2 x) _=_;rw [iN];show onO (lget (l.map (Value.int k')) ix.toNat) _=_;rw [lget_eq,List.getElem?_map,List.getElem?_eq_getElem ai];show OR.ok (.int k' l[ix.toNat]) H2 n2=_;unfold x1U;rw [List.getD_eq_getElem?_getD,List.getElem?_eq_getElem ai];rfl
    . cases h
  . rename_i i ix nn hb;rw [hb] at aj;split at h
    . rename_i s l bI;cases aF:x2C (P.underlying t) with
      | true=>rw [aF] at h;cases h
      | false =>
        rw [aF] at h;cases dE:Nat.beq nn l.length with
        | false=>rw [dE] at h;cases h
        | true =>
          rw [dE] at h;cases h;have dE:=Nat.eq_of_beq_eq_true dE;obtain ⟨x,len,xl,e,h5,h6,h7⟩:=hr.cells bI;generalize hz:ev T a=z at aj;cases aj with
          | celt _ _ _ x' len' hm h0 h1 =>
            rw [h5] at hm;cases hm;have ai:ix.toNat<l.length:=by omega
            obtain ⟨w,aH,bK⟩:=h7.get ix.toNat _ (List.getElem?_eq_getElem ai);refine ⟨w, .sel _ _ _ _ h0 (List.getElem?_eq_getElem ai) bK,fun H2 n2 hs=>?_⟩;have hg:x0Z H2 x=some (xl,e):=by
              show cellsOf (hget H2 x)=_;rw [hs i x len rfl h5,h6];rfl
            rw [bu];unfold z8R;rw [aF,cond_false,hd];show x6R (ev T a) (fun a=>onO (x0Z H2 a.block) fun p=>onO (lget p.1 a.off) fun v=> .ok v H2 n2)=_;rw [hz];show onO (x0Z H2 x) _=_;rw [hg];show onO (lget xl ix.toNat) _=_;rw [lget_eq,aH];rfl
    . cases h
  . cases h
omit hρ hr in
theorem y3J:∀ (l:List Int),x5G (l.map (Value.int .u8))=some (x1R l)
  | []=>rfl
  | x::l=>by
    show (x5G (l.map (Value.int .u8))).map _=_;rw [y3J l];rfl
omit hρ hr in
theorem u2P (l:List Value):cut l 0 l.length=some l:=by
  have:∀ l:List Value,z5N l.length l=some l:=by
    intro l
    induction l with
    | nil=>rfl
    | cons x l ih=>rw [List.length_cons,y1Y,ih]
  cases l with
  | nil=>rfl
  | cons x l=>exact this (x::l)
theorem b2s_got {s d:TypeId}{x:Operand}(ho:o.op = .convert s d x){e0:TypeId}(hd:P.underlying d=some .string)(hs:P.underlying s=some (.slice e0))(hu:isU8 (P.underlying e0)=true){q:YOp}(hc:y1 .b2s x=some q){src:Option Nat}{v:PV D}(h:opR B ρ q = .ld src v):LdR P o T V μ H (MX X μ B) src v:=by
  obtain ⟨y,hy,rfl⟩:=x0G hc;have h:(match ρ y with
      | .lsl i=>match bget B i with
        | some (_, .rowI _ k l)=>cond (ikeq k .u8) (.ld (some i) (.str (x1R l))) .bad
        | _=> .bad
      | _=> .bad)=OpR.ld src v:=h
  have aj:=hρ x y hy;have bu:∀ H2 n2, (x0N P o).f T H2 n2=v3C (ev T x)
        (fun a len=>onO (x0Z H2 a.block) fun p=>onO (cut p.1 a.off len) fun r=>onO (x5G r) fun bs=> .ok (.string ⟨bs.toArray⟩) H2 n2)
        (chk (plain (ev T x)) (x0X P T H2 n2 o)):=fun H2 n2=>by
    have hc:(x0N P o).f T H2 n2=(x4N P o s d x).f T H2 n2:=by unfold x0N;rw [ho]
    rw [hc];unfold x4N;rw [hd,hs];show (coIf (isU8 (P.underlying e0)) _).f T H2 n2=_;rw [hu];rfl
  split at h
  . rename_i i hb;rw [hb] at aj;split at h
    . rename_i st e k l bI;cases hk:ikeq k .u8 with
      | false=>rw [hk] at h;cases h
      | true =>
        rw [hk] at h;cases h;obtain rfl:=x4W hk;have bP:Rep V μ H (MX X μ B) (.str (x1R l)) (.string ⟨(x1R l).toArray⟩):=by
          have:=Rep.str (V:=V) (μ := μ) (H:=H) (M:=MX X μ B) (⟨(x1R l).toArray⟩:ByteArray)
          simpa using this
        rcases y2L hr aj bI with ⟨b,c,hm,hx,_,hg⟩ | ⟨_,hx,rfl⟩
        . refine ⟨_,bP,fun H2 n2 aW=>?_⟩;rw [bu,hx];have iN:x0Z H2 b=some (l.map (Value.int .u8),e):=by
            show cellsOf (hget H2 b)=_;rw [aW i b _ rfl hm,hg];rfl
          show onO (x0Z H2 b) _=_;rw [iN];show onO (cut (l.map (Value.int .u8)) 0 l.length) _=_
          have:=u2P (l.map (Value.int .u8))
          rw [List.length_map] at this;rw [this];show onO (x5G (l.map (Value.int .u8))) _=_;rw [y3J];rfl
        . refine ⟨_,bP,fun H2 n2 aW=>?_⟩;rw [bu,hx];show chk true (x0X P T H2 n2 o)=_;show x0X P T H2 n2 o=_;refine x3U rfl ?_ H2 n2;have hE:execOp (ev T) o=(do pure (.value (<- convert s d (ev T x)))):=by unfold execOp;rw [ho]
          rw [hE,hx,x0F];have:prun P (convert s d (.slice none 0 0))=some (.string ⟨(x1R []).toArray⟩):=by
            unfold convert;have h8:=v5L hu;simp only [x0F,x0W hs,x0W hd,Option.bind_some,x0W h8];rfl
          rw [this];rfl
    . cases h
  . cases h
omit hρ hr in
theorem y9Z {s d:TypeId}{x:Operand}{e:TypeId}(ho:o.op = .convert s d x)(hd:P.underlying d=some (.slice e))(h:y0J P e=true)(H2:Hp)(n2:Nat):(x0N P o).f T H2 n2=(cond (x9Y (P.underlying s))
      ⟨fun T H n=>y9S (ev T x) fun b=>Xec.newS H n (b.data.toList.map fun c=> .int .u8 c.toNat) e b.size unk⟩
      (coIf (cond (Nat.beq s d) (match x2X (P.underlying s) with | some e'=>Nat.beq e' e | none=>false) false) ⟨fun T H n=>onSl (ev T x) fun a l c=>onO (x0Z H a.block) fun _=> .ok (.slice (some a) l c) H n⟩):CO).f T H2 n2:=by
  have hc:(x0N P o).f T H2 n2=(x4N P o s d x).f T H2 n2:=by unfold x0N;rw [ho]
  rw [hc];unfold x4N;rw [hd];show (y1T P s d x e).f T H2 n2=_;have e1:y1T P s d x e=coIf (y0J P e) (cond (x9Y (P.underlying s))
      ⟨fun T H n=>y9S (ev T x) fun b=>Xec.newS H n (b.data.toList.map fun c=> .int .u8 c.toNat) e b.size unk⟩
      (coIf (cond (Nat.beq s d) (match x2X (P.underlying s) with | some e'=>Nat.beq e' e | none=>false) false) ⟨fun T H n=>onSl (ev T x) fun a l c=>onO (x0Z H a.block) fun _=> .ok (.slice (some a) l c) H n⟩)):=rfl
  rw [e1,h];rfl
theorem b2b_got {s d:TypeId}{x:Operand}{e0 e':TypeId}(ho:o.op = .convert s d x)(hd:P.underlying d=some (.slice e0))(hs:P.underlying s=some (.slice e'))(qF:Nat.beq s d=true)(wO:Nat.beq e' e0=true)(hu:y0J P e0=true){q:YOp}(hc:y1 .b2b x=some q){src:Option Nat}{v:PV D}(h:opR B ρ q = .ld src v):LdR P o T V μ H (MX X μ B) src v:=by
  obtain ⟨y,hy,rfl⟩:=x0G hc;have h:(match ρ y with
      | .lsl i=>match bget B i with
        | some (_, .rowI _ _ (_::_))=> .ld (some i) (.lsl i)
        | _=> .bad
      | _=> .bad)=OpR.ld src v:=h
  have aj:=hρ x y hy;split at h
  . rename_i i hb;rw [hb] at aj;split at h
    . rename_i st e k a l bI;cases h;rcases y2L hr aj bI with ⟨b,c,hm,hx,bu,hg⟩ | ⟨_,_,hh⟩
      . refine ⟨_,aj,fun H2 n2 aW=>?_⟩;rw [y9Z ho hd hu,hs];show (coIf (cond (Nat.beq s d) (Nat.beq e' e0) false) _:CO).f T H2 n2=_;rw [qF,wO];show onSl (ev T x) (fun a l c=>onO (x0Z H2 a.block) fun _=> .ok (.slice (some a) l c) H2 n2)=_;rw [hx];have iN:x0Z H2 b=some ((a::l).map (Value.int k),e):=by
          show cellsOf (hget H2 b)=_;rw [aW i b _ rfl hm,hg];rfl
        show onO (x0Z H2 b) _=_;rw [iN];rfl
      . cases hh
    . cases h
  . cases h
end
variable [GT]
section
variable {D:Type} {V:D->List (PV D)} {μ:Mu} {H:Hp} {P:Program} {o:Oper} {T:Tm} {ρ:Yd->PV D} {X:Nat->Prop} {B:Bt D} {m n:Nat}
def isVP:OpR D->Bool
  | .bad | .val _ | .par _ _=>true
  | _=>false
theorem v1D {b:Bool}{r:OpR D}(h:isVP r=true):isVP (cond b r .bad)=true:=by cases b <;> first | rfl | exact h
theorem vp_I2 {x y:PV D}{f:IntKind->Int->Int->OpR D}(h:∀ k a b,isVP (f k a b)=true):isVP (onI2 x y f)=true:=by
  unfold onI2;split
  . exact v1D (h _ _ _)
  . rfl
theorem vp_I2' {x y:PV D}{f:IntKind->Int->Int->OpR D}(h:∀ k a b,isVP (f k a b)=true):isVP (u7Y x y f)=true:=by
  unfold u7Y;split
  . exact h _ _ _
  . rfl
theorem u3U {α:Type}{o:Option α}{f:α->OpR D}(h:∀ a,isVP (f a)=true):isVP (Option.casesOn (motive:=fun _=>OpR D) o .bad f)=true:=by
  cases o <;> first | rfl | exact h _
def y3D:YOp->Bool
  | .ld _ _ _ | .b2s _ | .s2b _ _ | .b2b _ | .box _ _ | .alloc _ | .allocI _ _ _ | .bslI _ _ _ _ | .st _ _ _ | .app _ _ _=>false
  | _=>true
theorem z0P (q:YOp)(h:y3D q=true):isVP (opR B ρ q)=true:=by
  cases q with
  | mv x=>rfl
  | nilck x=>exact v1D rfl
  | pick c a b=>rfl
  | ari op x y=>exact vp_I2 fun k a b=>by unfold ariR;split <;> rfl
  | div op x y=>exact vp_I2 fun k a b=>by unfold divR;split <;> rfl
  | shf op x y=>exact vp_I2' fun k a b=>by unfold shfR;split <;> rfl
  | cmp op x y=>exact vp_I2 fun k a b=>by unfold cmpR;split <;> rfl
  | beq neg x y=>simp only [opR];split <;> rfl
  | scmp neg x y=>simp only [opR];split <;> rfl
  | aeq neg k x y=>simp only [opR];split <;> first | rfl | (cases k <;> first | rfl | exact u3U fun a=>rfl)
  | scat x y=>simp only [opR];split <;> rfl
  | not x=>simp only [opR];split <;> rfl
  | neg x=>simp only [opR];split <;> rfl
  | iconv k x=>simp only [opR];split <;> rfl
  | rstr x=>simp only [opR];split <;> rfl
  | slen x=>simp only [opR,x2E];split <;> rfl
  | sidx x i=>simp only [opR,x2E];split <;> first | rfl | (split <;> rfl)
  | aidx k x i=>simp only [opR];split <;> rfl
  | ssl x lo hi=>simp only [opR,x2E];split <;> first | rfl | (unfold sslR;split <;> rfl)
  | b2s x=>cases h
  | s2b e x=>cases h
  | b2b x=>cases h
  | mx isMax x y=>exact vp_I2 fun k a b=>rfl
  | box e x=>cases h
  | alloc z=>cases h
  | allocI e k z=>cases h
  | faddr x off=>simp only [opR];split <;> rfl
  | fld x off k agg=>simp only [opR];split <;> first | rfl | exact u3U fun a=>rfl
  | ld k agg x=>cases h
  | st k x v=>cases h
  | bld z ps=>exact u3U fun a=>rfl
  | bslI e k len ps=>cases h
  | app e s x=>cases h
  | llen x =>
    show isVP (v4Z B (ρ x))=true;unfold v4Z;split <;> first | rfl | (split <;> rfl)
  | iaddr x i =>
    show isVP (z7G B (ρ x) (ρ i))=true;unfold z7G;split <;> first | rfl | (split <;> rfl)
  | aaddr k x i=>simp only [opR];split <;> first | rfl | (split <;> rfl)
  | ext x ix=>simp only [opR];split <;> first | rfl | exact u3U fun a=>rfl | (rcases ix with _ | _ | _ | ix <;> rfl)
  | eqnil sl neg x y=>simp only [opR];split <;> rfl
  | call f args=>rfl
  | callv x l=>rfl
  | prim p args=>rfl
theorem x3S {op:Op}{q:YOp}(hc:x1Z P op=some q):y3D q=true\/(∃ t a,op = .load t a)\/(∃ s d x e0,op = .convert s d x/\P.underlying d=some .string/\P.underlying s=some (.slice e0)/\isU8 (P.underlying e0)=true/\y1 .b2s x=some q) \/
    (∃ e x,op = .box e x)\/(∃ e,op = .alloc e)\/(∃ t len ps,op = .buildSlice t len ps)\/(∃ t a v,op = .store t a v)\/(∃ args ts,op = .call { callee:= .builtin .append,args,argTypes:=ts }) \/
    (∃ s d x e0,op = .convert s d x/\P.underlying d=some (.slice e0)/\y0J P e0=true/\((P.underlying s=some .string/\y1 (.s2b e0) x=some q)\/(∃ e',P.underlying s=some (.slice e')/\Nat.beq s d=true/\Nat.beq e' e0=true/\y1 .b2b x=some q))):=by
  have p1:∀ {f:Yd->YOp} {x:Operand} {q:YOp}, (∀ a,y3D (f a)=true)->y1 f x=some q->y3D q=true:=fun hf h=>by
    obtain ⟨a,_,rfl⟩:=x0G h;exact hf a
  have p2:∀ {f:Yd->Yd->YOp} {x y:Operand} {q:YOp}, (∀ a b,y3D (f a b)=true)->y2 f x y=some q->y3D q=true:=fun hf h=>by
    obtain ⟨a,b,_,_,rfl⟩:=x0V h;exact hf a b
  unfold x1Z at hc;split at hc
  . exact .inl (p1 (fun _=>rfl) hc)
  . exact .inl (p1 (fun _=>rfl) hc)
  . exact .inl (p1 (fun _=>rfl) hc)
  . obtain ⟨_,_,h1⟩:=x0A hc;obtain ⟨_,_,h2⟩:=x0A h1;obtain ⟨_,_,rfl⟩:=x0C h2;exact .inl rfl
  . left;unfold yBin at hc
    split at hc <;> first | (cases hc;done) | (split at hc <;> first | (cases hc;done) | exact p2 (fun _ _=>rfl) hc)
  . exact .inl (p1 (fun _=>rfl) hc)
  . exact .inl (p1 (fun _=>rfl) hc)
  . unfold z1Z at hc;split at hc
    . exact .inl (p1 (fun _=>rfl) hc)
    . exact .inl (p1 (fun _=>rfl) hc)
    . exact .inl (p1 (fun _=>rfl) hc)
    . rename_i h1 h2;obtain ⟨h3,h4⟩:=x0B hc;exact .inr (.inr (.inl ⟨_,_,_,_,rfl,h1,h2,h3,h4⟩))
    . rename_i h1 h2;obtain ⟨h3,h4⟩:=x0B hc;exact .inr (.inr (.inr (.inr (.inr (.inr (.inr (.inr ⟨_,_,_,_,rfl,h1,h3, .inl ⟨h2,h4⟩⟩)))))))
    . rename_i h1 h2;obtain ⟨h3,h4⟩:=x0B hc;obtain ⟨h5,h6⟩:=x0D h3;obtain ⟨h7,h8⟩:=x0D h5;exact .inr (.inr (.inr (.inr (.inr (.inr (.inr (.inr ⟨_,_,_,_,rfl,h1,h6, .inr ⟨_,h2,h7,h8,h4⟩⟩)))))))
    . cases hc
  . left;split at hc
    . exact p2 (fun _ _=>rfl) hc
    . exact p2 (fun _ _=>rfl) (x0B hc).2
    . cases hc
  . left;unfold y0R at hc
    split at hc
    . obtain ⟨_,_,h1⟩:=x0A hc;obtain ⟨_,_,h2⟩:=x0A h1;obtain ⟨_,_,rfl⟩:=x0C h2;rfl
    . cases hc
  . unfold x1D at hc;split at hc
    . left;split at hc
      . exact p1 (fun _=>rfl) hc
      . exact p1 (fun _=>rfl) hc
      . cases hc
    . exact .inl (p2 (fun _ _=>rfl) hc)
    . exact .inl (p2 (fun _ _=>rfl) hc)
    . exact .inr (.inr (.inr (.inr (.inr (.inr (.inr (.inl ⟨_,_,rfl⟩)))))))
    . cases hc
  . obtain ⟨a,_,rfl⟩:=x0C hc;exact .inl rfl
  . obtain ⟨a,_,rfl⟩:=x0C hc;exact .inl rfl
  . exact .inr (.inr (.inr (.inl ⟨_,_,rfl⟩)))
  . exact .inr (.inr (.inr (.inr (.inl ⟨_,rfl⟩))))
  . obtain ⟨_,_,h1⟩:=x0A hc;obtain ⟨_,_,h2⟩:=x0A h1;obtain ⟨_,h3⟩:=x0B h2;exact .inl (p1 (fun _=>rfl) h3)
  . obtain ⟨_,_,h1⟩:=x0A hc;obtain ⟨_,_,h2⟩:=x0A h1;obtain ⟨_,_,h3⟩:=x0A h2;exact .inl (p1 (fun _=>rfl) h3)
  . exact .inr (.inl ⟨_,_,rfl⟩)
  . exact .inr (.inr (.inr (.inr (.inr (.inr (.inl ⟨_,_,_,rfl⟩))))))
  . left;obtain ⟨_,_,h1⟩:=x0A hc
    obtain ⟨_,_,h2⟩:=x0A h1;obtain ⟨_,_,h3⟩:=x0A h2;obtain ⟨_,_,h4⟩:=x0A h3;obtain ⟨_,_,rfl⟩:=x0C h4;rfl
  . exact .inr (.inr (.inr (.inr (.inr (.inl ⟨_,_,_,rfl⟩)))))
  . left;unfold yIaddr at hc
    split at hc
    . exact p2 (fun _ _=>rfl) (x0B hc).2
    . exact p2 (fun _ _=>rfl) (x0B hc).2
    . cases hc
  . exact .inl (p1 (fun _=>rfl) hc)
  . left;split at hc
    . exact p1 (fun _=>rfl) hc
    . cases hc
  . exact .inl (p1 (fun _=>rfl) hc)
  . left;obtain ⟨_,h1⟩:=x0B hc
    obtain ⟨_,_,h2⟩:=x0A h1;obtain ⟨_,_,h3⟩:=x0A h2;exact p1 (fun _=>rfl) h3
  . cases hc
theorem ld_kind {q:YOp}(hc:x1Z P o.op=some q){src:Option Nat}{v:PV D}(h:opR B ρ q = .ld src v):(∃ t a,o.op = .load t a)\/(∃ s d x e0,o.op = .convert s d x/\P.underlying d=some .string/\P.underlying s=some (.slice e0)/\isU8 (P.underlying e0)=true/\y1 .b2s x=some q)\/(∃ s d x e0 e',o.op = .convert s d x/\P.underlying d=some (.slice e0)/\P.underlying s=some (.slice e')/\Nat.beq s d=true/\Nat.beq e' e0=true/\y0J P e0=true/\y1 .b2b x=some q):=by
  rcases x3S hc with h1 | h1 | h1 | ⟨e,x,h1⟩ | ⟨e,h1⟩ | ⟨t,len,ps,h1⟩ | ⟨t,a,w,h1⟩ | ⟨args,ts,h1⟩ | ⟨s,d,x,e0,h1,h2,h3,h4⟩
  . have:=z0P (B:=B) (ρ := ρ) q h1;rw [h] at this;cases this
  . exact .inl h1
  . exact .inr (.inl h1)
  . rw [h1] at hc;obtain ⟨a,_,rfl⟩:=x0G (show y1 (.box e) x=some q from hc)
    have h:cond (y4D (ρ a)) (OpR.mk (z8X e (ρ a)) (fun i=> .lptr i 0)) .bad = .ld src v:=h;cases hb:y4D (ρ a) <;> rw [hb] at h <;> cases h
  . rw [h1] at hc;have hc:yAlloc P e=some q:=hc;unfold yAlloc at hc;obtain ⟨z,_,h2⟩:=x0A hc;obtain ⟨cs,_,h4⟩:=x0A h2;cases aE:x2A P e <;> rw [aE] at h4
    . cases h4;cases h
    . rw [cond_true] at h4;split at h4
      . obtain ⟨l,_,rfl⟩:=x0C h4;cases h
      . cases h4;cases h
      . cases h4
  . rw [h1] at hc;have hc:x1E P t len ps.toList=some q:=hc;unfold x1E at hc;obtain ⟨e,_,h2⟩:=x0A hc;obtain ⟨k,_,h3⟩:=x0A h2;obtain ⟨ys,_,h4⟩:=x0A h3;obtain ⟨_,h5⟩:=x0B h4;cases h5;have h:Option.casesOn (motive:=fun _=>OpR D) (bslL k (ys.map fun p=>(p.1, ρ p.2)) (repI len)) .bad (fun l=> .mk (.rowI e k l) (fun i=> .lsl i)) = .ld src v:=h;cases hb:bslL k (ys.map fun p=>(p.1, ρ p.2)) (repI len) <;> rw [hb] at h <;> cases h
  . rw [h1] at hc;obtain ⟨k,_,h2⟩:=x0A hc;obtain ⟨a',b',_,_,rfl⟩:=x0V h2;have h:stR B k (ρ b') (ρ a') = .ld src v:=h;rcases y2A (B:=B) k (ρ b') (ρ a') with ⟨i,b2,h3⟩ | h3 <;> rw [h3] at h <;> cases h
  . rw [h1] at hc;have hc:x1D P .append args.toList ts.toList=some q:=hc;unfold x1D at hc;split at hc <;> first | (rename_i hh _ _;cases hh;done) | (rename_i hh _;cases hh;done) | (cases hc;done) | skip
    obtain ⟨_,_,h2⟩:=x0A hc;obtain ⟨_,_,h3⟩:=x0A h2;obtain ⟨_,_,h4⟩:=x0A h3;obtain ⟨_,_,h5⟩:=x0A h4;obtain ⟨a',b',_,_,rfl⟩:=x0V h5;rcases x9V (B:=B) _ (ρ a') (ρ b') with ⟨c,i,b2,h6⟩ | h6
    . have h:appR B _ (ρ a') (ρ b') = .ld src v:=h;rw [h6] at h;cases h
    . have h:appR B _ (ρ a') (ρ b') = .ld src v:=h;rw [h6] at h;cases h
  . rcases h4 with ⟨_,h5⟩ | ⟨e',h5,h6,h7,h8⟩
    . obtain ⟨a,_,rfl⟩:=x0G h5;have h:x2E (ρ a) (fun s=>OpR.mk (.rowI e0 .u8 (x0S s)) (fun i=> .lsl i)) = .ld src v:=h;unfold x2E at h;split at h <;> cases h
    . exact .inr (.inr ⟨_,_,_,_,_,h1,h2,h5,h6,h7,h3,h8⟩)
end
variable [GT]
section
variable {D:Type} {V:D->List (PV D)} {μ:Mu} {H:Hp} {P:Program} {o:Oper} {T:Tm} {ρ:Yd->PV D} {X:Nat->Prop} {B:Bt D} {m n:Nat}
theorem ld_got (hρ:OpdR V μ H (MX X μ B) T ρ)(hr:HR V X μ B m H n){q:YOp}(hc:x1Z P o.op=some q){src:Option Nat}{v:PV D}(h:opR B ρ q = .ld src v):LdR P o T V μ H (MX X μ B) src v:=by
  rcases ld_kind hc h with ⟨t,a,ho⟩ | ⟨s,d,x,e0,ho,h1,h2,h3,h4⟩ | ⟨s,d,x,e0,e',ho,h1,h2,h3,h4,h5,h6⟩
  . exact load_got hρ hr ho (by rw [<- ho];exact hc) h
  . exact b2s_got hρ hr ho h1 h2 h3 h4 h
  . exact b2b_got hρ hr ho h1 h2 h3 h4 h5 h6 h
def MkR (P:Program)(o:Oper)(T:Tm)(V:D->List (PV D))(μ:Mu)(H:Hp)(M:Nat->Prop)(b:Blk D)(f:Nat->PV D):Prop :=
  ∃ (xl:List Value) (e:TypeId) (len:Nat) (w:Nat->Value),(∀ H2 n2,(x0N P o).f T H2 n2 = .ok (w n2) (hset H2 n2 (.cells xl e)) (n2+1))/\∀ μ' H' M' i x,Keep μ H M μ' H' M'->μ' i=some (some x,len)->hget H' x=some (.cells xl e)->BlkR V μ' H' M' (some x) len b/\Rep V μ' H' M' (f i) (w x)
theorem z9C (k:IntKind)(c:Cst)(cs:List Cst):y9D k (c::cs)=(match c with
    | .int k' n=>cond (ikeq k k') ((y9D k cs).map fun r=>n::r) none
    | _=>none):=rfl
theorem cst0_int {v:Value}{k:IntKind}{i:Int}(h:cst0 v=some (.int k i)):v = .int k i:=by
  unfold cst0 at h;split at h <;> first | (cases h;done) | (cases h;rfl)
theorem intsOf (k:IntKind):∀ {cs:List Cst} {l:List Int}, y9D k cs=some l->∀ {z:List Value}, cstL z=some cs->z=l.map (Value.int k)
  | [],l,h,z,hz=>by
    cases h;cases z with
    | nil=>rfl
    | cons v z =>
      rw [y7Z] at hz;obtain ⟨_,_,h2⟩:=x0A hz;obtain ⟨_,_,h3⟩:=x0C h2;cases h3
  | c::cs,l,h,z,hz=>by
    cases z with
    | nil=>cases hz
    | cons v z =>
      rw [y7Z] at hz;obtain ⟨c',h1,h2⟩:=x0A hz;obtain ⟨cs',h3,h4⟩:=x0C h2;cases h4;rw [z9C] at h;cases c with
      | int k' i =>
        obtain ⟨h5,h6⟩:=x0B (show cond (ikeq k k') ((y9D k cs).map fun r=>i::r) none=some l from h)
        obtain ⟨r,h7,rfl⟩:=x0C h6;obtain rfl:=x4W h5;rw [intsOf k h7 h3,cst0_int h1];rfl
      | _=>cases h
theorem z9V:∀ (l:List Int) (i:Nat) (v:Int) {r:List Int}, setI l i v=some r->r=l.set i v/\i<l.length
  | [],i,v,r,h=>by cases h
  | x::l, 0,v,r,h=>by cases h;simp
  | x::l,i+1,v,r,h=>by
    have h':Option.casesOn (motive:=fun _=>Option (List Int)) (setI l i v) none (fun r=>some (x::r))=some r:=h;cases e:setI l i v with
    | none=>rw [e] at h';cases h'
    | some q =>
      rw [e] at h';cases h';obtain ⟨h1,h2⟩:=z9V l i v e;subst h1
      simp;omega
theorem y5X:∀ (l:List Value) (i:Nat) (v:Value),i<l.length->x7N l i [v]=some (l.set i v)
  | [],i,v,h=>by simp at h
  | x::l, 0,v,h=>rfl
  | x::l,i+1,v,h=>by
    rw [x9G,y5X l i v (by simpa using h)]
    rfl
theorem u6W {M:Nat->Prop}(hρ:OpdR V μ H M T ρ){k:IntKind}:∀ {ps:List (Nat×Operand)} {ys:List (Nat×Yd)} {l r:List Int}, y5M ps=some ys->bslL k (ys.map fun p=>(p.1, ρ p.2)) l=some r->x6U (fun i=>some (Nat.mul i 1, 1)) (x5A T ps) (l.map (Value.int k))=some (r.map (Value.int k))
  | [],ys,l,r,h1,h2=>by cases h1;cases h2;rfl
  | p::ps,ys,l,r,h1,h2=>by
    rw [y0B] at h1;obtain ⟨c,e1,e2⟩:=x0A h1;obtain ⟨ys',e3,rfl⟩:=x0C e2;have h2:(match ρ c with
      | .int k' n=>cond (ikeq k k') (Option.casesOn (motive:=fun _=>Option (List Int)) (setI l p.1 n) none (bslL k (ys'.map fun p=>(p.1, ρ p.2)))) none
      | _=>none)=some r:=h2
    split at h2
    . rename_i k' i hi;obtain ⟨h3,h4⟩:=x0B h2;obtain rfl:=x4W h3;obtain ⟨l2,h5,h6⟩:=x0Y (z:=(none:Option (List Int))) h4 (by simp)
      obtain ⟨rfl,h7⟩:=z9V _ _ _ h5;have fC:=(hi▸hρ p.2 c e1:Rep V μ H M (.int k i) (ev T p.2)).int_of;have ih:=u6W hρ e3 h6;show x6U _ ((p.1,ev T p.2)::x5A T ps) _=_;rw [y2P,fC];show (some (Nat.mul p.1 1, 1)).bind _=_;rw [Option.bind_some];show cond true ((x7N (l.map (Value.int k)) (Nat.mul p.1 1) [.int k i]).bind _) none=_;have:Nat.mul p.1 1=p.1:=Nat.mul_one _;rw [cond_true,this,y5X _ _ _ (by simpa using h7),Option.bind_some, <- List.map_set]
      exact ih
    . cases h2
theorem u4R (k:IntKind):∀ n:Nat,(repI n).map (Value.int k)=repl n [.int k 0]
  | 0=>rfl
  | n+1=>by
    show Value.int k 0::(repI n).map (Value.int k)=_;rw [u4R k n];rfl
theorem y8L (k:IntKind):∀ {qs:List (Nat×PV D)} {l r:List Int}, bslL k qs l=some r->r.length=l.length
  | [],l,r,h=>by cases h;rfl
  | q::qs,l,r,h=>by
    have h:(match q.2 with
      | .int k' n=>cond (ikeq k k') (Option.casesOn (motive:=fun _=>Option (List Int)) (setI l q.1 n) none (bslL k qs)) none
      | _=>none)=some r:=h
    split at h
    . obtain ⟨h3,h4⟩:=x0B h;obtain ⟨l2,h5,h6⟩:=x0Y (z:=(none:Option (List Int))) h4 (by simp)
      obtain ⟨rfl,h7⟩:=z9V _ _ _ h5;rw [y8L k h6,List.length_set]
    . cases h
theorem y6D:∀ n:Nat,(repI n).length=n
  | 0=>rfl
  | n+1=>by show (repI n).length+1=_;rw [y6D n]
theorem y2J {e:TypeId}{k:IntKind}(h:x3E P e=some k):∃ i,P.underlying e=some (.int k)/\x1K P e=some 1/\x4Q P e=some [.int k 0]/\P.info? e=some i/\1 <= i.bytes/\i.bytes <= 8/\i.size=1:=by
  unfold x3E at h;split at h
  . rename_i k' k2 i h1 h2 h3 h4;obtain ⟨h5,h6⟩:=x0B h;obtain ⟨h7,h8⟩:=x0D h5;obtain ⟨h9,aH⟩:=x0D h8;cases h6;obtain rfl:=x4W h7;refine ⟨i,h1,h2,h3,h4,x1H h9,x1H aH, ?_⟩;unfold x1K at h2;rw [h4] at h2
    simpa using h2
  . cases h
variable (hρ:OpdR V μ H (MX X μ B) T ρ) (hr:HR V X μ B m H n)
include hρ
theorem mk_got {q:YOp}(hc:x1Z P o.op=some q){b:Blk D}{f:Nat->PV D}(h:opR B ρ q = .mk b f):MkR P o T V μ H (MX X μ B) b f:=by
  rcases x3S hc with h1 | ⟨t,a,h1⟩ | ⟨s,d,x,e0,h1,_,_,_,h2⟩ | ⟨e,x,h1⟩ | ⟨e,h1⟩ | ⟨t,len,ps,h1⟩ | ⟨t,a,w,h1⟩ | ⟨args,ts,h1⟩ | ⟨s,d,x,e0,h1,h2,h3,h4⟩
  . have:=z0P (B:=B) (ρ := ρ) q h1;rw [h] at this;cases this
  . rw [h1] at hc;obtain ⟨_,_,h2⟩:=x0A hc;obtain ⟨k,_,h3⟩:=x0A h2;obtain ⟨y,_,rfl⟩:=x0G h3;rcases y6Z (B:=B) k (x2C (P.underlying t)) (ρ y) with ⟨i,b',h4⟩ | h4
    . have h:ldR B k (x2C (P.underlying t)) (ρ y) = .mk b f:=h;rw [h4] at h;cases h
    . have h:ldR B k (x2C (P.underlying t)) (ρ y) = .mk b f:=h;rw [h4] at h;cases h
  . obtain ⟨y,_,rfl⟩:=x0G h2;have h:(match ρ y with
      | .lsl i=>match bget B i with
        | some (_, .rowI _ k l)=>cond (ikeq k .u8) (.ld (some i) (.str (x1R l))) .bad
        | _=> .bad
      | _=> .bad)=OpR.mk b f:=h
    split at h
    . split at h
      . cases hk:ikeq _ .u8 <;> rw [hk] at h <;> cases h
      . cases h
    . cases h
  . have ho:=h1;rw [h1] at hc;obtain ⟨a,ha,rfl⟩:=x0G (show y1 (.box e) x=some q from hc)
    have h:cond (y4D (ρ a)) (OpR.mk (z8X e (ρ a)) (fun i=> .lptr i 0)) .bad = .mk b f:=h;cases hb:y4D (ρ a) with
    | false=>rw [hb] at h;cases h
    | true =>
      rw [hb] at h;cases h;have aj:=hρ x a ha;have bu:∀ H2 n2,(x0N P o).f T H2 n2 = .ok (.pointer (some ⟨n2, 0,none⟩)) (hset H2 n2 (.cells (ev T x).cells.toList e)) (n2+1):=fun H2 n2=>by unfold x0N;rw [ho];rfl
      by_cases aF:∃ k l, ρ a = .aggI k l
      . obtain ⟨k,l,hk⟩:=aF;rw [hk] at aj |-;generalize hz:ev T x=z at aj bu;cases aj with
        | aggI _ _ ar xm =>
          refine ⟨ar.toList,e,l.length,fun n=> .pointer (some ⟨n, 0,none⟩),bu,fun μ' H' M' i y bG hm hg=>⟨?_, .lptr i 0 y _ hm⟩⟩;show BlkR V μ' H' M' (some y) l.length (.rowI e k l);exact .rowI y e k l (by rw [hg,xm])
      . have jw:z8X e (ρ a) = .cells (x3K (ρ a))/\x5X (x3K (ρ a))=true := by
          generalize ρ a=y at hb aF |-
          cases y <;> first | exact ⟨rfl,hb⟩ | exact absurd ⟨_,_,rfl⟩ aF
        obtain ⟨r1,r2⟩:=y2W aj jw.2;rw [jw.1];refine ⟨_,e, 0,fun n=> .pointer (some ⟨n, 0,none⟩),bu,fun μ' H' M' i y bG hm hg=>⟨.cells y 0 _ _ e hg (r1.keep bG), .lptr i 0 y _ hm⟩⟩
  . have ho:=h1;rw [h1] at hc;have hc:yAlloc P e=some q:=hc;unfold yAlloc at hc;obtain ⟨z,hz,h2⟩:=x0A hc;obtain ⟨cs,f9,h4⟩:=x0A h2;have bu:∀ H2 n2,(x0N P o).f T H2 n2 = .ok (.pointer (some ⟨n2, 0,none⟩)) (hset H2 n2 (.cells z e)) (n2+1):=fun H2 n2=>by
      have:(x0N P o).f T H2 n2=(coO (x4Q P e) fun z=>⟨fun _ H n=>Xec.newB H n z e⟩:CO).f T H2 n2:=by unfold x0N;rw [ho]
      rw [this,hz];rfl
    cases aE:x2A P e <;> rw [aE] at h4
    . cases h4;cases h;refine ⟨z,e, 0,fun n=> .pointer (some ⟨n, 0,none⟩),bu,fun μ' H' M' i y bG hm hg=>⟨.cells y 0 _ _ e hg (y7Y f9).2, .lptr i 0 y _ hm⟩⟩
    . rw [cond_true] at h4;split at h4
      . rename_i k i0 _;obtain ⟨l,hl,rfl⟩:=x0C h4;cases h;refine ⟨z,e,l.length,fun n=> .pointer (some ⟨n, 0,none⟩),bu,fun μ' H' M' i y bG hm hg=>⟨.rowI y e k l (by rw [hg,intsOf k hl f9]), .lptr i 0 y _ hm⟩⟩
      . cases h4;cases h;refine ⟨z,e, 0,fun n=> .pointer (some ⟨n, 0,none⟩),bu,fun μ' H' M' i y bG hm hg=>⟨.cells y 0 _ _ e hg (y7Y f9).2, .lptr i 0 y _ hm⟩⟩
      . cases h4
  . have ho:=h1;rw [h1] at hc;have hc:x1E P t len ps.toList=some q:=hc;unfold x1E at hc;obtain ⟨e,he,h2⟩:=x0A hc;obtain ⟨k,hk,h3⟩:=x0A h2;obtain ⟨ys,dS,h4⟩:=x0A h3;obtain ⟨aV,h5⟩:=x0B h4;cases h5;have h:Option.casesOn (motive:=fun _=>OpR D) (bslL k (ys.map fun p=>(p.1, ρ p.2)) (repI len)) .bad (fun l=> .mk (.rowI e k l) (fun i=> .lsl i)) = .mk b f:=h;obtain ⟨l,hl,h6⟩:=x0Y (z:=(OpR.bad:OpR D)) h (by simp)
    cases h6;obtain ⟨i,c1,c2,c3,c4,c5,c6,c7⟩:=y2J hk;have hf:=u6W hρ dS hl;rw [u4R] at hf;have am:l.length=len:=by rw [y8L k hl,y6D]
    refine ⟨l.map (Value.int k),e,len,fun n=> .slice (some ⟨n, 0,none⟩) len len,fun H2 n2=>?_,fun μ' H' M' i y bG hm hg=>⟨?_, .lsl i y len len hm (.inr rfl)⟩⟩
    . have:(x0N P o).f T H2 n2=(x5W P t len ps.toList).f T H2 n2:=by unfold x0N;rw [ho]
      rw [this];unfold x5W;rw [he];show (coO (x1K P e) _).f T H2 n2=_;rw [c2];show (coO (x4Q P e) _).f T H2 n2=_;rw [c3];show (coIf (cond true (cond true (Nat.ble (Nat.mul len 1) 16777215) false) false) _).f T H2 n2=_;have:Nat.ble (Nat.mul len 1) 16777215=true:=Nat.ble_eq_true_of_le (by have:=x1H aV;show len*1 <= _;omega)
      rw [this];show onO (x6U (fun i=>some (Nat.mul i 1, 1)) (x5A T ps.toList) (repl len [.int k 0])) _=_;rw [hf];rfl
    . have:=BlkR.rowI (V:=V) (μ := μ') (H:=H') (M:=M') y e k l hg
      rw [am] at this;exact this
  . rw [h1] at hc;obtain ⟨k,_,h2⟩:=x0A hc;obtain ⟨a',b',_,_,rfl⟩:=x0V h2;have h:stR B k (ρ b') (ρ a') = .mk b f:=h;rcases y2A (B:=B) k (ρ b') (ρ a') with ⟨i,b2,h3⟩ | h3 <;> rw [h3] at h <;> cases h
  . rw [h1] at hc;have hc:x1D P .append args.toList ts.toList=some q:=hc;unfold x1D at hc;split at hc <;> first | (rename_i hh _ _;cases hh;done) | (rename_i hh _;cases hh;done) | (cases hc;done) | skip
    obtain ⟨_,_,h2⟩:=x0A hc;obtain ⟨_,_,h3⟩:=x0A h2;obtain ⟨_,_,h4⟩:=x0A h3;obtain ⟨_,_,h5⟩:=x0A h4;obtain ⟨a',b',_,_,rfl⟩:=x0V h5;have h:appR B _ (ρ a') (ρ b') = .mk b f:=h;rcases x9V (B:=B) _ (ρ a') (ρ b') with ⟨c,i,b2,h6⟩ | h6 <;> rw [h6] at h <;> cases h
  . rcases h4 with ⟨h4,h5⟩ | ⟨e',h5,h6,h7,h8⟩
    . obtain ⟨a,ha,rfl⟩:=x0G h5;have h:x2E (ρ a) (fun s=>OpR.mk (.rowI e0 .u8 (x0S s)) (fun i=> .lsl i)) = .mk b f:=h;unfold x2E at h;split at h
      . rename_i s' hs;cases h;obtain ⟨u,rfl,hx⟩:=x7M hρ ha hs;have rA:(u.data.toList.map fun c=>Value.int .u8 c.toNat)=(x0S u.data.toList).map (Value.int .u8):=by
          unfold x0S;rw [List.map_map];rfl
        have am:(x0S u.data.toList).length=u.size:=by unfold x0S;rw [List.length_map, <- x2K]
        refine ⟨(x0S u.data.toList).map (Value.int .u8),e0,u.size,fun n=> .slice (some ⟨n, 0,none⟩) u.size unk,fun H2 n2=>?_,fun μ' H' M' i y bG hm hg=>⟨?_, .lsl i y u.size unk hm (.inl rfl)⟩⟩
        . rw [y9Z h1 h2 h3,h4];show y9S (ev T x) _=_;rw [hx, <- rA];rfl
        . have:=BlkR.rowI (V:=V) (μ := μ') (H:=H') (M:=M') y e0 .u8 (x0S u.data.toList) hg
          rw [am] at this;exact this
      . cases h
    . obtain ⟨a,_,rfl⟩:=x0G h8;have h:(match ρ a with
        | .lsl i=>match bget B i with
          | some (_, .rowI _ _ (_::_))=> .ld (some i) (.lsl i)
          | _=> .bad
        | _=> .bad)=OpR.mk b f:=h
      split at h
      . split at h <;> cases h
      . cases h
end
variable [GT]
section
variable {D:Type} {V:D->List (PV D)} {μ:Mu} {H:Hp} {P:Program} {o:Oper} {T:Tm} {ρ:Yd->PV D} {X:Nat->Prop} {B:Bt D} {m n:Nat}
theorem wr_kind {q:YOp}(hc:x1Z P o.op=some q){i0:Nat}{b0:Blk D}(h:opR B ρ q=OpR.wr i0 b0):∃ t a v k a' b',o.op = .store t a v/\x1K P t=some k/\ydO a=some a'/\ydO v=some b'/\q = .st k a' b':=by
  rcases x3S hc with h1 | h1 | h1 | ⟨e,x,h1⟩ | ⟨e,h1⟩ | ⟨t,len,ps,h1⟩ | ⟨t,a,w,h1⟩ | ⟨args,ts,h1⟩ | h1
  . have:=z0P (B:=B) (ρ := ρ) q h1;rw [h] at this;cases this
  . obtain ⟨t,a,h1⟩:=h1;rw [h1] at hc;obtain ⟨_,_,h2⟩:=x0A hc;obtain ⟨k,_,h3⟩:=x0A h2;obtain ⟨y,_,rfl⟩:=x0G h3;have h:ldR B k (x2C (P.underlying t)) (ρ y)=OpR.wr i0 b0:=h;rcases y6Z (B:=B) k (x2C (P.underlying t)) (ρ y) with ⟨i',b',h4⟩ | h4 <;> rw [h4] at h <;> cases h
  . obtain ⟨s,d,x,e0,h1,_,_,_,h2⟩:=h1;obtain ⟨y,_,rfl⟩:=x0G h2;have h:(match ρ y with
      | .lsl i=>match bget B i with
        | some (_, .rowI _ k l)=>cond (ikeq k .u8) (.ld (some i) (.str (x1R l))) .bad
        | _=> .bad
      | _=>(.bad:OpR D))=OpR.wr i0 b0:=h
    split at h
    . split at h
      . cases hk:ikeq _ .u8 <;> rw [hk] at h <;> cases h
      . cases h
    . cases h
  . rw [h1] at hc;obtain ⟨a,_,rfl⟩:=x0G (show y1 (.box e) x=some q from hc)
    have h:cond (y4D (ρ a)) (OpR.mk (z8X e (ρ a)) (fun i=> .lptr i 0)) .bad=OpR.wr i0 b0:=h;cases hb:y4D (ρ a) <;> rw [hb] at h <;> cases h
  . rw [h1] at hc;have hc:yAlloc P e=some q:=hc;unfold yAlloc at hc;obtain ⟨z,_,h2⟩:=x0A hc;obtain ⟨cs,_,h4⟩:=x0A h2;cases aE:x2A P e <;> rw [aE] at h4
    . cases h4;cases h
    . rw [cond_true] at h4;split at h4
      . obtain ⟨l,_,rfl⟩:=x0C h4;cases h
      . cases h4;cases h
      . cases h4
  . rw [h1] at hc;have hc:x1E P t len ps.toList=some q:=hc;unfold x1E at hc;obtain ⟨e,_,h2⟩:=x0A hc;obtain ⟨k,_,h3⟩:=x0A h2;obtain ⟨ys,_,h4⟩:=x0A h3;obtain ⟨_,h5⟩:=x0B h4;cases h5;have h:Option.casesOn (motive:=fun _=>OpR D) (bslL k (ys.map fun p=>(p.1, ρ p.2)) (repI len)) .bad (fun l=> .mk (.rowI e k l) (fun i=> .lsl i))=OpR.wr i0 b0:=h;cases hb:bslL k (ys.map fun p=>(p.1, ρ p.2)) (repI len) <;> rw [hb] at h <;> cases h
  . have ho:=h1;rw [h1] at hc;obtain ⟨k,h3,h2⟩:=x0A hc;obtain ⟨a',b',h4,h5,rfl⟩:=x0V h2;exact ⟨t,a,w,k,a',b',ho,h3,h4,h5,rfl⟩
  . rw [h1] at hc;have hc:x1D P .append args.toList ts.toList=some q:=hc;unfold x1D at hc;split at hc <;> first | (rename_i hh _ _;cases hh;done) | (rename_i hh _;cases hh;done) | (cases hc;done) | skip
    obtain ⟨_,_,h2⟩:=x0A hc;obtain ⟨_,_,h3⟩:=x0A h2;obtain ⟨_,_,h4⟩:=x0A h3;obtain ⟨_,_,h5⟩:=x0A h4;obtain ⟨a',b',_,_,rfl⟩:=x0V h5;rcases x9V (B:=B) _ (ρ a') (ρ b') with ⟨c,i,b2,h6⟩ | h6
    . have h:appR B _ (ρ a') (ρ b')=OpR.wr i0 b0:=h;rw [h6] at h;cases h
    . have h:appR B _ (ρ a') (ρ b')=OpR.wr i0 b0:=h;rw [h6] at h;cases h
  . obtain ⟨s,d,x,e0,_,_,_,h4⟩:=h1;rcases h4 with ⟨_,h5⟩ | ⟨e',_,_,_,h5⟩
    . obtain ⟨a,_,rfl⟩:=x0G h5;have h:x2E (ρ a) (fun s=>OpR.mk (.rowI e0 .u8 (x0S s)) (fun i=> .lsl i))=OpR.wr i0 b0:=h;unfold x2E at h;split at h <;> cases h
    . obtain ⟨a,_,rfl⟩:=x0G h5;have h:(match ρ a with
        | .lsl i=>match bget B i with
          | some (_, .rowI _ _ (_::_))=> .ld (some i) (.lsl i)
          | _=> .bad
        | _=>(.bad:OpR D))=OpR.wr i0 b0:=h
      split at h
      . split at h <;> cases h
      . cases h
theorem ap_kind {q:YOp}(hc:x1Z P o.op=some q){c0:Bool}{i0:Option Nat}{b0:Blk D}(h:opR B ρ q=OpR.ap c0 i0 b0):∃ args ts s x st xt e e' k k' a b,o.op = .call { callee:= .builtin .append,args:=args,argTypes:=ts }/\args.toList=[s,x]/\ts.toList=[st,xt]/\x2X (P.underlying st)=some e/\x2X (P.underlying xt)=some e'/\x3E P e=some k/\x3E P e'=some k'/\ydO s=some a/\ydO x=some b/\q = .app e a b:=by
  rcases x3S hc with h1 | h1 | h1 | ⟨e,x,h1⟩ | ⟨e,h1⟩ | ⟨t,len,ps,h1⟩ | ⟨t,a,w,h1⟩ | ⟨args,ts,h1⟩ | h1
  . have:=z0P (B:=B) (ρ := ρ) q h1;rw [h] at this;cases this
  . obtain ⟨t,a,h1⟩:=h1;rw [h1] at hc;obtain ⟨_,_,h2⟩:=x0A hc;obtain ⟨k,_,h3⟩:=x0A h2;obtain ⟨y,_,rfl⟩:=x0G h3;have h:ldR B k (x2C (P.underlying t)) (ρ y)=OpR.ap c0 i0 b0:=h;rcases y6Z (B:=B) k (x2C (P.underlying t)) (ρ y) with ⟨i',b',h4⟩ | h4 <;> rw [h4] at h <;> cases h
  . obtain ⟨s,d,x,e0,h1,_,_,_,h2⟩:=h1;obtain ⟨y,_,rfl⟩:=x0G h2;have h:(match ρ y with
      | .lsl i=>match bget B i with
        | some (_, .rowI _ k l)=>cond (ikeq k .u8) (.ld (some i) (.str (x1R l))) .bad
        | _=> .bad
      | _=>(.bad:OpR D))=OpR.ap c0 i0 b0:=h
    split at h
    . split at h
      . cases hk:ikeq _ .u8 <;> rw [hk] at h <;> cases h
      . cases h
    . cases h
  . rw [h1] at hc;obtain ⟨a,_,rfl⟩:=x0G (show y1 (.box e) x=some q from hc)
    have h:cond (y4D (ρ a)) (OpR.mk (z8X e (ρ a)) (fun i=> .lptr i 0)) .bad=OpR.ap c0 i0 b0:=h;cases hb:y4D (ρ a) <;> rw [hb] at h <;> cases h
  . rw [h1] at hc;have hc:yAlloc P e=some q:=hc;unfold yAlloc at hc;obtain ⟨z,_,h2⟩:=x0A hc;obtain ⟨cs,_,h4⟩:=x0A h2;cases aE:x2A P e <;> rw [aE] at h4
    . cases h4;cases h
    . rw [cond_true] at h4;split at h4
      . obtain ⟨l,_,rfl⟩:=x0C h4;cases h
      . cases h4;cases h
      . cases h4
  . rw [h1] at hc;have hc:x1E P t len ps.toList=some q:=hc;unfold x1E at hc;obtain ⟨e,_,h2⟩:=x0A hc;obtain ⟨k,_,h3⟩:=x0A h2;obtain ⟨ys,_,h4⟩:=x0A h3;obtain ⟨_,h5⟩:=x0B h4;cases h5;have h:Option.casesOn (motive:=fun _=>OpR D) (bslL k (ys.map fun p=>(p.1, ρ p.2)) (repI len)) .bad (fun l=> .mk (.rowI e k l) (fun i=> .lsl i))=OpR.ap c0 i0 b0:=h;cases hb:bslL k (ys.map fun p=>(p.1, ρ p.2)) (repI len) <;> rw [hb] at h <;> cases h
  . rw [h1] at hc;obtain ⟨k,_,h2⟩:=x0A hc;obtain ⟨a',b',_,_,rfl⟩:=x0V h2;have h:stR B k (ρ b') (ρ a')=OpR.ap c0 i0 b0:=h;rcases y2A (B:=B) k (ρ b') (ρ a') with ⟨i,b2,h3⟩ | h3 <;> rw [h3] at h <;> cases h
  . rw [h1] at hc;have hc:x1D P .append args.toList ts.toList=some q:=hc;unfold x1D at hc;split at hc <;> first | (rename_i hh _ _;cases hh;done) | (rename_i hh _;cases hh;done) | (cases hc;done) | skip
    rename_i s x st xt hq ha ht;obtain ⟨e,q1,h2⟩:=x0A hc;obtain ⟨e',q2,h3⟩:=x0A h2;obtain ⟨k,q3,h4⟩:=x0A h3;obtain ⟨k',q4,h5⟩:=x0A h4;obtain ⟨a',b',q5,q6,rfl⟩:=x0V h5;exact ⟨args,ts,s,x,st,xt,e,e',k,k',a',b',h1,ha,ht,q1,q2,q3,q4,q5,q6,rfl⟩
  . obtain ⟨s,d,x,e0,_,_,_,h4⟩:=h1;rcases h4 with ⟨_,h5⟩ | ⟨e',_,_,_,h5⟩
    . obtain ⟨a,_,rfl⟩:=x0G h5;have h:x2E (ρ a) (fun s=>OpR.mk (.rowI e0 .u8 (x0S s)) (fun i=> .lsl i))=OpR.ap c0 i0 b0:=h;unfold x2E at h;split at h <;> cases h
    . obtain ⟨a,_,rfl⟩:=x0G h5;have h:(match ρ a with
        | .lsl i=>match bget B i with
          | some (_, .rowI _ _ (_::_))=> .ld (some i) (.lsl i)
          | _=> .bad
        | _=>(.bad:OpR D))=OpR.ap c0 i0 b0:=h
      split at h
      . split at h <;> cases h
      . cases h
def WrR (P:Program)(o:Oper)(T:Tm)(V:D->List (PV D))(μ:Mu)(B:Bt D)(H:Hp)(n:Nat)(M:Nat->Prop)(i:Nat)(b:Blk D):Prop :=
  ∃ x len xl e s b0, μ i=some (some x,len)/\bget B i=some (s,b0)/\(x0N P o).f T H n = .ok undef (hset H x (.cells xl e)) n/\∀ μ' H' M',Keep μ H M μ' H' M'->hget H' x=some (.cells xl e)->BlkR V μ' H' M' (some x) len b
variable (hρ:OpdR V μ H (MX X μ B) T ρ) (hr:HR V X μ B m H n)
include hρ hr
theorem wr_got {q:YOp}(hc:x1Z P o.op=some q){i:Nat}{b:Blk D}(h:opR B ρ q = .wr i b):WrR P o T V μ B H n (MX X μ B) i b:=by
  obtain ⟨t,a,v,k,a',b',ho,hk,ha,hv,rfl⟩:=wr_kind hc h;have h:stR B k (ρ b') (ρ a') = .wr i b:=h;have ni:=hρ a a' ha;have qK:=hρ v b' hv;have bu:(x0N P o).f T H n=x6R (ev T a) fun ad=>chk (cond (Nat.beq (ev T v).cells.toList.length k) (all1 (ev T v).cells.toList) false) (x8L H n ad.block ad.off (ev T v).cells.toList undef):=by
    have:(x0N P o).f T H n=(u6T P t a v).f T H n:=by unfold x0N;rw [ho]
    rw [this];unfold u6T;rw [hk];rfl
  unfold stR at h;split at h
  . rename_i j off hb;rw [hb] at ni;split at h
    . rename_i s l bI;cases iz:cond (Nat.beq (x3K (ρ b')).length k) (x5X (x3K (ρ b'))) false with
      | false=>rw [iz] at h;cases h
      | true =>
        rw [iz,cond_true] at h;obtain ⟨h1,h2⟩:=x0D iz;obtain ⟨l',h3,h4⟩:=x0Y (z:=(OpR.bad:OpR D)) h (by simp)
        cases h4;obtain ⟨x,len,xl,e,e1,e2,e3⟩:=hr.cells bI;obtain ⟨x',len',e4,e5⟩:=y0G ni;obtain ⟨rfl,rfl⟩:=mu_eq e1 e4;obtain ⟨r1,r2⟩:=y2W qK h2;obtain ⟨xl',e6,e7⟩:=y4G off h3 e3 r1;refine ⟨x,len,xl',e,s,_,e1,bI, ?_,fun μ' H' M' bG hg=> .cells x len _ _ e hg (e7.keep bG)⟩;rw [bu,e5];show chk (cond (Nat.beq (ev T v).cells.toList.length k) (all1 (ev T v).cells.toList) false) (x8L H n x off (ev T v).cells.toList undef)=_;rw [<- r1.length,h1,r2];show onO (cellsOf (hget H x)) _=_;rw [e2];show onO (x7N xl off (ev T v).cells.toList) _=_;rw [e6];rfl
    . cases h
  . rename_i j ix hb;rw [hb] at ni;split at h
    . rename_i s e k' l k2 y bI hy;rw [hy] at qK;have vr:=qK.int_of;cases iz:cond (ikeq k' k2) (Nat.beq k 1) false with
      | false=>rw [iz] at h;cases h
      | true =>
        rw [iz] at h;cases h;obtain ⟨h1,h2⟩:=x0D iz;obtain rfl:=x4W h1;obtain rfl:=x0U h2;generalize hz:ev T a=z at ni;cases ni with
        | lelt _ _ x len hm h0 ai =>
          obtain ⟨_,ox,len',e1,e2⟩:=hr.blk i s _ bI;rw [hm] at e1;cases e1;cases e2 with
          | rowI _ _ _ _ hg =>
            refine ⟨x,l.length,(v5H l ix y).map (Value.int k'),e,s,_,hm,bI, ?_,fun μ' H' M' bG ju=>?_⟩
            . rw [bu,hz,vr];show x8L H n x ix.toNat [.int k' y] undef=_;unfold x8L;show onO (cellsOf (hget H x)) _=_;rw [hg];show onO (x7N (l.map (Value.int k')) ix.toNat [.int k' y]) _=_;rw [y5X _ _ _ (by simpa using ai), <- List.map_set]
              rfl
            . have:=BlkR.rowI (V:=V) (μ := μ') (H:=H') (M:=M') x e k' (v5H l ix y) ju
              have hl:(v5H l ix y).length=l.length:=by unfold v5H;simp
              rw [hl] at this;exact this
    . cases h
  . cases h
def ApR (P:Program)(o:Oper)(T:Tm)(V:D->List (PV D))(μ:Mu)(B:Bt D)(H:Hp)(n:Nat)(oi:Option Nat)(b:Blk D):Prop :=
  ∃ xl e len c H',(x0N P o).f T H n = .ok (.slice (some ⟨n, 0,none⟩) len c) H' (n+1)/\(c=unk\/c=len)/\hget H' n=some (.cells xl e) /\
    (∀ y,y≠n->(∀ i x l,oi=some i->μ i=some (some x,l)->y≠x)->hget H' y=hget H y)/\(∀ i,oi=some i->∃ s b,bget B i=some (s,b))/\∀ μ' H2 M',hget H2 n=some (.cells xl e)->BlkR V μ' H2 M' (some n) len b
theorem ap_got {q:YOp}(hc:x1Z P o.op=some q){ck:Bool}{oi:Option Nat}{b:Blk D}(h:opR B ρ q = .ap ck oi b)(lK:ck=true):ApR P o T V μ B H n oi b:=by
  obtain ⟨args,ts,s,x,st,xt,e,e',k,k2,a,b',ho,h1,h2,h3,h4,h5,h6,h7,h8,rfl⟩:=ap_kind hc h;have h:appR B e (ρ a) (ρ b') = .ap ck oi b:=h;have ng:=hρ s a h7;have tJ:=hρ x b' h8;obtain ⟨i,c1,c2,c3,c4,c5,c6,c7⟩:=y2J h5;have ay:∀ (k:IntKind) (l:List Int),all1 (l.map (Value.int k))=true:=fun k l=>by
    induction l with
    | nil=>rfl
    | cons x l ih=>exact ih
  have bu:(x0N P o).f T H n=onO (lenS (ev T x)) fun kk => onO (x6M H 1 (ev T x)) fun new => chk (cond (all1 new) (Nat.beq new.length (Nat.mul kk 1)) false)
      (appTo H n 1 e kk new (fun m=>Nat.ble (Nat.mul m i.bytes) 1099511627776) (ev T s)):=by
    have e1:(x0N P o).f T H n=(x7Z P o args.toList ts.toList .append).f T H n:=by unfold x0N;rw [ho]
    rw [e1,h1,h2];show (y8G P st xt s x).f T H n=_;unfold y8G;have e2:u5C (P.underlying xt)=true:=by rw [x2Q h4];rfl
    rw [e2,h3];show (coO (P.info? e) _).f T H n=_;rw [c4];show (coO (x4Q P e) _).f T H n=_;rw [c3];show (coIf (cond (Nat.ble 1 i.size) (cond (Nat.ble 1 i.bytes) (Nat.beq [Value.int k 0].length i.size) false) false) _).f T H n=_;rw [c7];have:Nat.ble 1 i.bytes=true:=Nat.ble_eq_true_of_le c5;rw [this];rfl
  have cL:∀ N:Nat,N <= 137438953472->Nat.ble (Nat.mul N i.bytes) 1099511627776=true:=fun N hN=>by
    refine Nat.ble_eq_true_of_le ?_;have:N*i.bytes <= 137438953472*8:=Nat.mul_le_mul hN c6;show N*i.bytes <= _;omega
  have src:∀ (j sj ej:Nat) (kj:IntKind) (y:Int) (r:List Int), ρ b' = .lsl j->bget B j=some (sj, .rowI ej kj (y::r)) ->
      lenS (ev T x)=some (y::r).length/\x6M H 1 (ev T x)=some ((y::r).map (Value.int kj)):=fun j sj ej kj y r hj iQ=>by
    rw [hj] at tJ;rcases y2L hr tJ iQ with ⟨bb,c,hm,hx,_,hg⟩ | ⟨_,_,hh⟩
    . rw [hx];refine ⟨rfl, ?_⟩;show (cellsOf (hget H bb)).bind _=_;rw [hg];show cut ((y::r).map (Value.int kj)) 0 (Nat.mul (y::r).length 1)=_
      have:=u2P ((y::r).map (Value.int kj))
      rw [List.length_map] at this;have bR:Nat.mul (y::r).length 1=(y::r).length:=Nat.mul_one _;rw [bR];exact this
    . cases hh
  have chk1:∀ (kj:IntKind) (l:List Int),cond (all1 (l.map (Value.int kj))) (Nat.beq (l.map (Value.int kj)).length (Nat.mul l.length 1)) false=true:=fun kj l=>by
    rw [ay,cond_true,List.length_map];have bR:Nat.mul l.length 1=l.length:=Nat.mul_one _;rw [bR];exact Nat.beq_refl _
  unfold appR at h;split at h
  . rename_i j ha hj;rw [ha] at ng;split at h
    . rename_i sj ej kj y r iQ;cases h;obtain ⟨s1,s2⟩:=src j sj ej kj y r hj iQ;have hs:ev T s = .slice none 0 0:=by
        generalize ev T s=z at ng;cases ng;rfl
      have hN:=of_decide_eq_true lK;refine ⟨(y::r).map (Value.int kj),e,(y::r).length,unk,hset H n (.cells ((y::r).map (Value.int kj)) e), ?_, .inl rfl, ?_,fun z hz _=>?_,fun _ hh=>(by cases hh),fun μ' H2 M' hg=> .rowI n e kj _ hg⟩
      . rw [bu,s1,s2];show chk (cond (all1 ((y::r).map (Value.int kj))) (Nat.beq ((y::r).map (Value.int kj)).length (Nat.mul (y::r).length 1)) false) _=_;rw [chk1,hs];show chk (Nat.ble (Nat.mul (y::r).length i.bytes) 1099511627776) (Xec.newS H n ((y::r).map (Value.int kj)) e (y::r).length unk)=_;rw [cL (y::r).length (by omega)]
        rfl
      . rw [x0E,if_pos rfl]
      . rw [x0E,if_neg hz]
    . cases h
  . rename_i i0 j ha hj;rw [ha] at ng;split at h
    . rename_i si ei kj0 l sj ej kj y r pX iQ;cases iz:cond (ikeq kj0 kj) (cond (Nat.beq ei e) (!(Nat.beq i0 j)) false) false with
      | false=>rw [iz] at h;cases h
      | true =>
        rw [iz] at h;cases h;obtain ⟨g1,g2⟩:=x0D iz;obtain ⟨g3,_⟩:=x0D g2;obtain rfl:=x4W g1;obtain rfl:=x0U g3;obtain ⟨s1,s2⟩:=src j sj ej kj0 y r hj iQ;have hN:=of_decide_eq_true lK;have fin:∀ μ' H2 M',hget H2 n=some (.cells ((l++(y::r)).map (Value.int kj0)) ei)->BlkR V μ' H2 M' (some n) (l++(y::r)).length (.rowI ei kj0 (l++(y::r))):=fun μ' H2 M' hg=> .rowI n ei kj0 _ hg;have am:(l++(y::r)).length=l.length+(y::r).length:=List.length_append;have cn:=hr.lt;rcases y2L hr ng pX with ⟨bb,c,hm,hx,iA,hg⟩ | ⟨hm,hx,rfl⟩
        . have ut:bb<n:=hr.lt _ _ _ hm;rcases iA with rfl | rfl
          . refine ⟨(l++(y::r)).map (Value.int kj0),ei,(l++(y::r)).length,unk,hset (hset H bb .dead) n (.cells ((l++(y::r)).map (Value.int kj0)) ei), ?_, .inl rfl, ?_,fun z hz mN=>?_,fun i hi=>(by cases hi;exact ⟨_,_,pX⟩),fin⟩
            . rw [bu,s1,s2];show chk (cond (all1 ((y::r).map (Value.int kj0))) (Nat.beq ((y::r).map (Value.int kj0)).length (Nat.mul (y::r).length 1)) false) _=_;rw [chk1,hx];show chk (Nat.ble (Nat.mul (l.length+(y::r).length) i.bytes) 1099511627776) (onO (cellsOf (hget H bb)) fun p=>z9B H n 1 ei ⟨bb, 0,none⟩ l.length unk (y::r).length ((y::r).map (Value.int kj0)) p)=_;rw [cL _ hN,hg];show z9B H n 1 ei ⟨bb, 0,none⟩ l.length unk (y::r).length ((y::r).map (Value.int kj0)) (l.map (Value.int kj0),ei)=_;unfold z9B;rw [Nat.beq_refl];show chk (cond true (cond (Nat.beq (l.map (Value.int kj0)).length (Nat.mul l.length 1)) (Nat.beq ei ei) false) false) _=_;have bR:Nat.mul l.length 1=l.length:=Nat.mul_one _;rw [List.length_map,bR,Nat.beq_refl,Nat.beq_refl]
              show OR.ok (.slice (some ⟨n, 0,none⟩) (Nat.add l.length (y::r).length) unk) (hset (hset H bb .dead) n (.cells (l.map (Value.int kj0)++(y::r).map (Value.int kj0)) ei)) (Nat.succ n)=_;rw [<- List.map_append,am];rfl
            . rw [x0E,if_pos rfl]
            . rw [x0E,if_neg hz,x0E,if_neg (mN i0 bb _ rfl hm)]
          . by_cases hu:l.length=unk
            . exfalso;unfold unk at hu
              omega
            . refine ⟨(l++(y::r)).map (Value.int kj0),ei,(l++(y::r)).length,unk,hset H n (.cells ((l++(y::r)).map (Value.int kj0)) ei), ?_, .inl rfl, ?_,fun z hz mN=>?_,fun i hi=>(by cases hi;exact ⟨_,_,pX⟩),fin⟩
              . rw [bu,s1,s2];show chk (cond (all1 ((y::r).map (Value.int kj0))) (Nat.beq ((y::r).map (Value.int kj0)).length (Nat.mul (y::r).length 1)) false) _=_;rw [chk1,hx];show chk (Nat.ble (Nat.mul (l.length+(y::r).length) i.bytes) 1099511627776) (onO (cellsOf (hget H bb)) fun p=>z9B H n 1 ei ⟨bb, 0,none⟩ l.length l.length (y::r).length ((y::r).map (Value.int kj0)) p)=_;rw [cL _ hN,hg];show z9B H n 1 ei ⟨bb, 0,none⟩ l.length l.length (y::r).length ((y::r).map (Value.int kj0)) (l.map (Value.int kj0),ei)=_;unfold z9B;have h0:Nat.beq l.length unk=false:=x0J hu;have h1:Nat.ble (Nat.add l.length (y::r).length) l.length=false:=by
                  cases hb:Nat.ble (Nat.add l.length (y::r).length) l.length with
                  | false=>rfl
                  | true=>have:=x1H hb;have e0:Nat.add l.length (y::r).length=l.length+(y::r).length:=rfl;rw [e0,List.length_cons] at this;omega
                rw [h0,cond_false,h1,cond_false];have bR:Nat.mul l.length 1=l.length:=Nat.mul_one _;show onO (cut (l.map (Value.int kj0)) 0 (Nat.mul l.length 1)) _=_
                have:=u2P (l.map (Value.int kj0))
                rw [List.length_map] at this;rw [bR,this];show OR.ok (.slice (some ⟨n, 0,none⟩) (Nat.add l.length (y::r).length) unk) (hset H n (.cells (l.map (Value.int kj0)++(y::r).map (Value.int kj0)) ei)) (Nat.succ n)=_;rw [<- List.map_append,am];rfl
              . rw [x0E,if_pos rfl]
              . rw [x0E,if_neg hz]
        . refine ⟨(y::r).map (Value.int kj0),ei,(y::r).length,unk,hset H n (.cells ((y::r).map (Value.int kj0)) ei), ?_, .inl rfl, ?_,fun z hz _=>?_,fun i hi=>(by cases hi;exact ⟨_,_,pX⟩),fun μ' H2 M' hg=> .rowI n ei kj0 _ hg⟩
          . rw [bu,s1,s2];show chk (cond (all1 ((y::r).map (Value.int kj0))) (Nat.beq ((y::r).map (Value.int kj0)).length (Nat.mul (y::r).length 1)) false) _=_;rw [chk1,hx];show chk (Nat.ble (Nat.mul (y::r).length i.bytes) 1099511627776) (Xec.newS H n ((y::r).map (Value.int kj0)) ei (y::r).length unk)=_;rw [cL (y::r).length (by have:([]:List Int).length=0:=rfl;omega)]
            rfl
          . rw [x0E,if_pos rfl]
          . rw [x0E,if_neg hz]
    . cases h
  . cases h
end
end Go.Yec
