/-
  THE PURE EXECUTOR: its operations come to what the executor's come to: strings, structs, pointers.; THE PURE EXECUTOR: its operations come to what the executor's come to: each kind of result.; THE PURE EXECUTOR: two structs of cells that can be compared.; THE PURE EXECUTOR: what an operation that lays and looks at nothing comes to.
-/
import Derived.Test.YtadehgdfijjikaaGreatDoorY4
import Derived.Laws.Strings
set_option linter.all false
namespace Go.Yec
open Go Go.Xec
variable [GT]
theorem x2B (b : ByteArray) : b.size = b.data.toList.length:=(Array.length_toList (xs:=b.data)).symm
theorem ba_loop (b : ByteArray) : ∀ (k i : Nat) (acc : List UInt8),b.size - i = k -> ByteArray.toList.loop b i acc = acc.reverse ++ b.data.toList.drop i:=by
  intro k
  induction k with
  | zero =>
    intro i acc h
    unfold ByteArray.toList.loop
    rw [if_neg (by omega)]
    have : b.data.toList.length <= i:=by rw [<- x2B]; omega
    simp [List.drop_eq_nil_of_le this]
  | succ k ih =>
    intro i acc h
    unfold ByteArray.toList.loop
    have hi : i < b.size:=by omega
    rw [if_pos hi,ih (i + 1) _ (by omega)]
    have hl : i < b.data.toList.length:=by rw [<- x2B]; exact hi
    rw [List.drop_eq_getElem_cons hl]
    have h2 : i < b.data.size:=hi
    have : b.get! i = b.data.toList[i]:=by
      show b.data[i]! = _
      rw [getElem!_pos b.data i h2]
      simp
    simp [this]
theorem z8T (b : ByteArray) : b.toList = b.data.toList:=by
  unfold ByteArray.toList
  rw [ba_loop b _ 0 [] rfl]
  simp
theorem ba_get (b : ByteArray) (i : Nat) : b[i]? = b.data.toList[i]? :=by
  by_cases h : i < b.size
  . rw [ByteArray.getElem?_lt' b i h]
    have h2 : i < b.data.size:=h
    simp [ByteArray.getElem_eq_getElem_data]
  . rw [ByteArray.getElem?_ge' b i h]
    have : b.data.toList.length <= i:=by rw [<- x2B]; omega
    simp [List.getElem?_eq_none this]
section
variable {D : Type} {V : D -> List (PV D)} {μ : Mu} {H : Hp} {M : Nat -> Prop} {P : Program} {o : Oper} {T : Tm} {ρ : Yd -> PV D}
theorem beq_ok {neg : Bool} {t yt : TypeId} {x y : Operand} (ho : o.op = .binOp (cond neg .neq .eql) t x y yt) (hu : P.underlying t = some .bool) {a b : Bool} (hx : ev T x = .bool a) (hy : ev T y = .bool b) : ValS P o T (.bool (negB neg (a == b))):=by
  have he : prun P (Op.equal t (.bool a) (.bool b)) = some (a == b):=by
    show prun P (Op.equalIn (9999 + 1) t (.bool a) (.bool b)) = _
    unfold Op.equalIn
    rw [x0F,x0U hu]
    rfl
  refine x8G ho rfl (by rw [hx]; rfl) (by rw [hy]; rfl) (fun i j h=>by rw [hx] at h; cases h.1) (x8W ho (by rw [hx,hy]; exact u7W ..) ?_)
  rw [hx,hy]
  cases neg
  . have : binOp .eql t (.bool a) (.bool b) = (do pure (.bool (<- Op.equal t (.bool a) (.bool b)))):=rfl
    show prun P (binOp .eql t (.bool a) (.bool b)) = _
    rw [this,x0F,he]; rfl
  . have : binOp .neq t (.bool a) (.bool b) = (do pure (.bool (!(<- Op.equal t (.bool a) (.bool b))))):=rfl
    show prun P (binOp .neq t (.bool a) (.bool b)) = _
    rw [this,x0F,he]; rfl
theorem scmp_ok {neg : Bool} {t yt : TypeId} {x y : Operand} (ho : o.op = .binOp (cond neg .neq .eql) t x y yt) {a b : ByteArray} (hx : ev T x = .string a) (hy : ev T y = .string b) : ValS P o T (.bool (negB neg (decide (a.data.toList = b.data.toList)))):=by
  refine x8G ho rfl (by rw [hx]; rfl) (by rw [hy]; rfl) (fun i j h=>by rw [hx] at h; cases h.1) (x8W ho (by rw [hx,hy]; exact z6Z ..) ?_)
  rw [hx,hy]
  have e : (a.toList == b.toList) = decide (a.data.toList = b.data.toList):=by rw [z8T,z8T,Bool.eq_iff_iff]; simp
  cases neg
  . show prun P (binOp .eql t (.string a) (.string b)) = _
    simp [binOp,Op.stringOp,x2S,e,negB]
  . show prun P (binOp .neq t (.string a) (.string b)) = _
    simp [binOp,Op.stringOp,x2S,e,negB]
theorem scat_ok {t yt : TypeId} {x y : Operand} (ho : o.op = .binOp .add t x y yt) {a b : ByteArray} (hx : ev T x = .string a) (hy : ev T y = .string b) (hlt : a.data.toList.length + b.data.toList.length < 9223372036854775808) : Rep V μ H M (.str (a.data.toList ++ b.data.toList)) (.string (a ++ b)) /\ ValS P o T (.string (a ++ b)):=by
  constructor
  . have : a.data.toList ++ b.data.toList = (a ++ b).data.toList:=by simp
    rw [this]
    exact .str _
  . refine x8G ho rfl (by rw [hx]; rfl) (by rw [hy]; rfl) (fun i j h=>by rw [hx] at h; cases h.1) (x8W ho (by rw [hx,hy]; exact z6Z ..) ?_)
    rw [hx,hy]
    rw [<- x2B, <- x2B] at hlt
    have : ¬ (((a.size + b.size : Nat) : Int) > IntKind.i64.max):=by
      have : IntKind.i64.max = 9223372036854775807:=rfl
      rw [this]; omega
    show prun P (Op.stringOp .add a b) = _
    simp only [Op.stringOp]
    rw [if_neg this]
    rfl
theorem un_ok {op : UnOp} {t : TypeId} {x : Operand} (ho : o.op = .unOp op t x) (hx : plain (ev T x) = true) {v : Value} (hv : plain v = true) (h : prun P (Op.unary op (ev T x)) = some v) : ValS P o T v:=by
  intro H2 n2
  have hc : (x0N P o).f T H2 n2 = chk (plain (ev T x)) (x0V P T H2 n2 o):=by unfold x0N; rw [ho]
  rw [hc,hx]
  show x0V P T H2 n2 o = _
  refine x3F hv ?_ H2 n2
  unfold execOp
  rw [ho]
  simp only [x0F,h,Option.bind_some]
  rfl
theorem u2J {s d : TypeId} {x : Operand} (ho : o.op = .convert s d x) (hx : plain (ev T x) = true) (hs : ∀ e,P.underlying s ≠ some (.slice e)) (hds : ∀ e,P.underlying d ≠ some (.slice e)) {v : Value} (hv : plain v = true) (h : prun P (convert s d (ev T x)) = some v) : ValS P o T v:=by
  intro H2 n2
  have hp : chk (plain (ev T x)) (x0V P T H2 n2 o) = .ok v H2 n2:=by
    rw [hx]
    show x0V P T H2 n2 o = _
    refine x3F hv ?_ H2 n2
    unfold execOp
    rw [ho]
    simp only [x0F,h,Option.bind_some]
    rfl
  have hc : (x0N P o).f T H2 n2 = (x4A P o s d x).f T H2 n2:=by unfold x0N; rw [ho]
  rw [hc]
  unfold x4A
  cases hd : x9E (P.underlying d) with
  | false =>
    rw [cond_false]
    cases he : x2N (P.underlying d) with
    | some e=>exact absurd (x2G he) (hds e)
    | none=>exact hp
  | true =>
    rw [cond_true]
    cases he : x2N (P.underlying s) with
    | some e=>exact absurd (x2G he) (hs e)
    | none=>exact hp
theorem index_ok {t : TypeId} {x i : Operand} (ho : o.op = .index t x i) (hu : P.underlying t = some .string) {b : ByteArray} {k : IntKind} {ix : Int} (hx : ev T x = .string b) (hi : ev T i = .int k ix) (hin : inB ix (slen b.data.toList) = true) : ValS P o T (.int .u8 (sget b.data.toList ix)):=by
  intro H2 n2
  have hc : (x0N P o).f T H2 n2 = chk (cond (plain (ev T x)) (plain (ev T i)) false) (x0V P T H2 n2 o):=by unfold x0N; rw [ho]
  rw [hc,hx,hi]
  show x0V P T H2 n2 o = _
  have h1:=of_decide_eq_true hin
  refine x3F rfl ?_ H2 n2
  have hE : execOp (ev T) o = (do pure (.value (<- Instr.index t (ev T x) (ev T i)))):=by unfold execOp; rw [ho]
  rw [hE,hx,hi]
  have hlt : ix.toNat < b.data.toList.length:=by have:=h1.2; unfold slen at this; omega
  have hg : b[ix.toNat]? = some (b.data.toList[ix.toNat]):=by rw [ba_get]; exact List.getElem?_eq_getElem hlt
  have : prun P (Instr.index t (.string b) (.int k ix)) = some (.int .u8 (sget b.data.toList ix)):=by
    unfold Instr.index
    rw [x0F]
    show (prun P (do match <- underlying t,Value.string b with | _,_=>_)) = _
    simp only [x0F,x0U hu,Option.bind_some,if_pos h1.1,hg]
    show some _ = some _
    unfold sget
    rw [List.getD_eq_getElem?_getD,List.getElem?_eq_getElem hlt]
    rfl
  simp only [x0F,this,Option.bind_some]
  rfl
end
end Go.Yec
namespace Go.Yec
open Go Go.Xec
variable [GT]
section
variable {D : Type} {V : D -> List (PV D)} {μ : Mu} {H : Hp} {M : Nat -> Prop} {P : Program} {o : Oper} {T : Tm} {ρ : Yd -> PV D}
theorem y4N : ∀ (n : Nat) {l r : List (PV D)} {m : List Value}, v1U n l = some r -> RepL V μ H M l m -> ∃ s,z5M n m = some s /\ RepL V μ H M r s
  | 0,l,r,m,h,hl=>by cases h; exact ⟨[],rfl, .nil⟩
  | n + 1,[],r,m,h,hl=>by cases h
  | n + 1,a :: l,r,_,h, .cons _ x _ m ha hl=>by
    have h' : Option.casesOn (motive:=fun _=>Option (List (PV D))) (v1U n l) none (fun r=>some (a :: r)) = some r:=h
    cases e : v1U n l with
    | none=>rw [e] at h'; cases h'
    | some q =>
      rw [e] at h'; cases h'
      obtain ⟨s,h1,h2⟩:=y4N n e hl
      exact ⟨x :: s,by rw [y0Z,h1], .cons _ _ _ _ ha h2⟩
theorem u6C : ∀ {l : List (PV D)} (k n : Nat) {r : List (PV D)} {m : List Value}, cutP l k n = some r -> RepL V μ H M l m -> ∃ s,cut m k n = some s /\ RepL V μ H M r s
  | [], 0,n,r,_,h, .nil=>y4N n (l:=[]) h .nil
  | [],k + 1,n,r,_,h,_=>by cases h
  | a :: l, 0,n,r,_,h, .cons _ x _ m ha hl=>y4N n (l:=a :: l) h (.cons _ _ _ _ ha hl)
  | a :: l,k + 1,n,r,_,h, .cons _ x _ m ha hl=>u6C (l:=l) k n h hl
theorem y5G : ∀ {vs l r : List (PV D)} {ws m : List Value}, v2U vs l = some r -> RepL V μ H M vs ws -> RepL V μ H M l m -> ∃ s,over ws m = some s /\ RepL V μ H M r s
  | [],l,r,_,m,h, .nil,hl=>by cases h; exact ⟨m,rfl,hl⟩
  | v :: vs,[],r,_,_,h,_,_=>by cases h
  | v :: vs,a :: l,r,_,_,h, .cons _ w _ ws hv hvs, .cons _ x _ m ha hl=>by
    have h' : Option.casesOn (motive:=fun _=>Option (List (PV D))) (v2U vs l) none (fun r=>some (v :: r)) = some r:=h
    cases e : v2U vs l with
    | none=>rw [e] at h'; cases h'
    | some q =>
      rw [e] at h'; cases h'
      obtain ⟨s,h1,h2⟩:=y5G e hvs hl
      exact ⟨w :: s,by rw [z6G,h1], .cons _ _ _ _ hv h2⟩
theorem y3K : ∀ {l : List (PV D)} (k : Nat) {vs r : List (PV D)} {m ws : List Value}, setP l k vs = some r -> RepL V μ H M l m -> RepL V μ H M vs ws -> ∃ s,x6V m k ws = some s /\ RepL V μ H M r s
  | [], 0,vs,r,_,ws,h, .nil,hv=>y5G (l:=[]) h hv .nil
  | [],k + 1,vs,r,_,_,h,_,_=>by cases h
  | a :: l, 0,vs,r,_,ws,h, .cons _ x _ m ha hl,hv=>y5G (l:=a :: l) h hv (.cons _ _ _ _ ha hl)
  | a :: l,k + 1,vs,r,_,ws,h, .cons _ x _ m ha hl,hv=>by
    have h' : Option.casesOn (motive:=fun _=>Option (List (PV D))) (setP l k vs) none (fun r=>some (a :: r)) = some r:=h
    cases e : setP l k vs with
    | none=>rw [e] at h'; cases h'
    | some q =>
      rw [e] at h'; cases h'
      obtain ⟨s,h1,h2⟩:=y3K k e hl hv
      exact ⟨x :: s,by rw [x8N,h1], .cons _ _ _ _ ha h2⟩
theorem z2R {l : List (PV D)} {m : List Value} (h : RepL V μ H M l m) {i : Nat} {v : PV D} (hi : lget l i = some v) : ∃ x,lget m i = some x /\ Rep V μ H M v x:=by
  rw [lget_eq] at hi
  obtain ⟨x,h1,h2⟩:=h.get i v hi
  exact ⟨x,by rw [lget_eq]; exact h1,h2⟩
theorem x0W {α β : Type} {o : Option α} {z : β} {f : α -> β} {b : β} (h : Option.casesOn (motive:=fun _=> β) o z f = b) (hz : z ≠ b) : ∃ a,o = some a /\ f a = b:=by
  cases o with
  | none=>exact absurd h hz
  | some a=>exact ⟨a,rfl,h⟩
theorem y5C {agg : Bool} {off n : Nat} {l : List (PV D)} {m : List Value} {v : PV D} (h : z6E agg off n l = some v) (hl : RepL V μ H M l m) :
    ∃ x,cond agg ((cut m off n).map x5G) (lget m off) = some x /\ Rep V μ H M v x:=by
  unfold z6E at h
  cases agg with
  | true =>
    obtain ⟨r,h1,h2⟩:=x0W (z:=(none : Option (PV D))) h (by simp)
    cases h2
    obtain ⟨s,h3,h4⟩:=u6C off n h1 hl
    exact ⟨x5G s,by simp [h3], .agg _ _ (by simpa [x5G] using h4)⟩
  | false=>exact z2R hl h
theorem y1X {v : PV D} {x : Value} (h : Rep V μ H M v x) (h1 : x5E (x2X v) = true) : RepL V μ H M (x2X v) x.cells.toList /\ all1 x.cells.toList = true:=by
  have key : ∀ (l : List (PV D)) (m : List Value),RepL V μ H M l m -> x5E l = true -> all1 m = true:=by
    intro l
    induction l with
    | nil=>intro m h _; cases h; rfl
    | cons a l ih =>
      intro m h h1
      cases h with
      | cons _ x _ m ha hl =>
        have h1 : cond (oneP a) (x5E l) false = true:=h1
        obtain ⟨h2,h3⟩:=x0D h1
        have hc : v6N x = true:=by cases ha <;> first | rfl | (cases h2)
        show cond (v6N x) (all1 m) false = true
        rw [hc,ih m hl h3]; rfl
  have one : ∀ {v : PV D} {x : Value}, Rep V μ H M v x -> x2X v = [v] -> x5E [v] = true -> RepL V μ H M [v] x.cells.toList:=fun {v x} h _ ho=>by
    have h2 : cond (oneP v) true false = true:=ho
    obtain ⟨h2,_⟩:=x0D h2
    have hx : x.cells.toList = [x]:=by cases h <;> first | rfl | (cases h2)
    rw [hx]
    exact .cons _ _ _ _ h .nil
  have hr : RepL V μ H M (x2X v) x.cells.toList:=by
    cases v with
    | agg l=>cases h with | agg _ a h=>exact h
    | _=>exact one h rfl h1
  exact ⟨hr,key _ _ hr h1⟩
theorem v3N {k : IntKind} {n : Int} (h : 0 <= n) : z6R (.int k n) = some n.toNat:=by
  cases n with
  | ofNat m=>rfl
  | negSucc m=>exact absurd h (by simp)
theorem v0S (b : ByteArray) (l h : Nat) : (b.extract l h).data.toList = (b.data.toList.drop l).take (h - l):=by
  rw [ByteArray.data_extract,Array.toList_extract,List.extract_eq_take_drop]
theorem ssl_run {t : TypeId} {x : Operand} {lo hi : Option Operand} (ho : o.op = .slice t x lo hi none) (hu : P.underlying t = some .string) {b : ByteArray} (hx : ev T x = .string b) {l h : Nat} (hl : x6C 0 (lo.map (ev T)) = some l) (hh : x6C b.size (hi.map (ev T)) = some h) (h1 : l <= h) (h2 : h <= b.size) : ValS P o T (.string (b.extract l h)):=by
  intro H2 n2
  have hc : (x0N P o).f T H2 n2 = (z8J P t x lo hi).f T H2 n2:=by unfold x0N; rw [ho]
  rw [hc]
  unfold z8J
  rw [hu]
  show y8N (ev T x) _ = _
  rw [hx]
  show onO (x6C 0 (lo.map (ev T))) (fun l=>onO (x6C b.size (hi.map (ev T))) fun h=>chk (cond (Nat.ble l h) (Nat.ble h b.size) false) (.ok (.string (b.extract l h)) H2 n2)) = _
  rw [hl,hh]
  show chk (cond (Nat.ble l h) (Nat.ble h b.size) false) _ = _
  rw [Nat.ble_eq_true_of_le h1,Nat.ble_eq_true_of_le h2]
  rfl
theorem z2F {s d : TypeId} {k k' k2 : IntKind} {n : Int} (hs : P.underlying s = some (.int k')) (hd : P.underlying d = some (.int k)) : prun P (convert s d (.int k2 n)) = some (.int k (k.wrap n)):=by
  unfold convert
  simp only [x0F,x0U hs,x0U hd,Option.bind_some]
  rfl
theorem y8M {s d : TypeId} {k' k2 : IntKind} {n : Int} (hs : P.underlying s = some (.int k')) (hd : P.underlying d = some .string) : prun P (convert s d (.int k2 n)) = some (.string (Utf8.encode n)):=by
  unfold convert
  simp only [x0F,x0U hs,x0U hd,Option.bind_some]
  rfl
theorem z2E {s d : TypeId} {b : ByteArray} (hs : P.underlying s = some .string) (hd : P.underlying d = some .string) : prun P (convert s d (.string b)) = some (.string b):=by
  unfold convert
  simp only [x0F,x0U hs,x0U hd,Option.bind_some]
  rfl
theorem y7B {b : Builtin} {args : Array Operand} {ts : Array TypeId} (ho : o.op = .call { callee:= .builtin b,args,argTypes:=ts }) (hp : ∀ x ∈ args.toList,plain (ev T x) = true) {v : Value} (hv : plain v = true)
    (hc : ∀ H2 n2,(x7F P o args.toList ts.toList b).f T H2 n2 = chk (allX T args.toList) (x0V P T H2 n2 o) \/ (x7F P o args.toList ts.toList b).f T H2 n2 = x0V P T H2 n2 o) (h : ∀ consts,prun P (builtin b ts o.type consts (args.map (ev T))) = some (Next.value v)) : ValS P o T v:=by
  intro H2 n2
  have hE : prun P (execOp (ev T) o) = some (.value v):=by
    unfold execOp
    rw [ho]
    simp only [x0F,resolve,invoke]
    exact h _
  have hx : ∀ l : List Operand,(∀ x ∈ l,plain (ev T x) = true) -> allX T l = true:=by
    intro l
    induction l with
    | nil=>intro _; rfl
    | cons a l ih =>
      intro h
      show cond (plain (ev T a)) (allX T l) false = true
      rw [h a (by simp),ih fun x hx=>h x (by simp [hx])]; rfl
  have e : (x0N P o).f T H2 n2 = (x7F P o args.toList ts.toList b).f T H2 n2:=by unfold x0N; rw [ho]
  rw [e]
  rcases hc H2 n2 with h1 | h1
  . rw [h1,hx _ hp]; exact x3F hv hE H2 n2
  . rw [h1]; exact x3F hv hE H2 n2
end
end Go.Yec
namespace Go.Yec
open Go Go.Xec
variable [GT]
section
variable {D : Type} {V : D -> List (PV D)} {μ : Mu} {H : Hp} {M : Nat -> Prop} {P : Program} {o : Oper} {T : Tm} {ρ : Yd -> PV D}
noncomputable def goF {α β : Type} (P : Program) (f : α -> β -> Sem (ForInStep β)) : List α -> β -> Option β
  | [],b=>some b
  | a :: l,b=>(prun P (f a b)).bind fun
    | .done b=>some b
    | .yield b=>goF P f l b
theorem y9D {α β : Type} (f : α -> β -> Sem (ForInStep β)) : ∀ (l : List α) (b : β),prun P (forIn l b f) = goF P f l b
  | [],b=>by rw [List.forIn_nil,goF]; rfl
  | a :: l,b=>by
    rw [List.forIn_cons,x0F,goF]
    congr 1
    funext r
    cases r with
    | done b=>rfl
    | yield b=>exact y9D f l b
theorem ba_beq (u u' : ByteArray) : (u == u') = decide (u.data.toList = u'.data.toList):=by
  cases u with | mk a=>cases u' with | mk b =>
  show (a == b) = _
  rw [Bool.eq_iff_iff]
  simp
theorem eqP1_ok {k : EK} {v w : PV D} {c : Bool} (h : eqP1 k v w = some c) {x y : Value} (hx : Rep V μ H M v x) (hy : Rep V μ H M w y) : x5A x = true /\ x5A y = true /\ ∀ (d : Nat) (t : TypeId),ekOf (P.underlying t) = some k -> prun P (Op.equalIn (d + 1) t x y) = some c:=by
  have ek : ∀ t,ekOf (P.underlying t) = some k -> (k = .i /\ ∃ q,P.underlying t = some (.int q)) \/ (k = .b /\ P.underlying t = some .bool) \/ (k = .s /\ P.underlying t = some .string):=fun t ht=>by
    unfold ekOf at ht
    split at ht <;> first | (cases ht; done) | skip
    . rename_i q e; cases ht; exact .inl ⟨rfl,q,e⟩
    . rename_i e; cases ht; exact .inr (.inl ⟨rfl,e⟩)
    . rename_i e; cases ht; exact .inr (.inr ⟨rfl,e⟩)
  unfold eqP1 at h
  split at h
  . cases hx; cases hy; cases h
    refine ⟨rfl,rfl,fun d t ht=> ?_⟩
    rcases ek t ht with ⟨e,_⟩ | ⟨_,e⟩ | ⟨e,_⟩ <;> first | (cases e; done) | skip
    unfold Op.equalIn
    rw [x0F,x0U e]
    rfl
  . obtain ⟨h1,h2⟩:=x0B h
    cases x4K h1
    cases hx; cases hy; cases h2
    refine ⟨rfl,rfl,fun d t ht=> ?_⟩
    rcases ek t ht with ⟨_,q,e⟩ | ⟨e,_⟩ | ⟨e,_⟩ <;> first | (cases e; done) | skip
    unfold Op.equalIn
    rw [x0F,x0U e,Option.bind_some]
    simp only [if_true]
    rfl
  . obtain ⟨u,rfl,rfl⟩:=hx.str_of
    obtain ⟨u',rfl,rfl⟩:=hy.str_of
    cases h
    refine ⟨rfl,rfl,fun d t ht=> ?_⟩
    rcases ek t ht with ⟨e,_⟩ | ⟨e,_⟩ | ⟨_,e⟩ <;> first | (cases e; done) | skip
    unfold Op.equalIn
    rw [x0F,x0U e,Option.bind_some]
    show some (u == u') = _
    rw [ba_beq]
  . cases h
theorem eqPL_nil (l m : List (PV D)) : eqPL [] l m = match l,m with | [],[]=>some true | _,_=>none:=by
  cases l <;> cases m <;> rfl
theorem v5P {k : EK} {ks : List EK} {l m : List (PV D)} {c : Bool} (h : eqPL (k :: ks) l m = some c) : ∃ v l' w m' c1 c2,l = v :: l' /\ m = w :: m' /\ eqP1 k v w = some c1 /\ eqPL ks l' m' = some c2 /\ c = cond c1 c2 false:=by
  cases l with
  | nil=>cases h
  | cons v l =>
    cases m with
    | nil=>cases h
    | cons w m =>
      have h : Option.casesOn (motive:=fun _=>Option Bool) (eqP1 k v w) none (fun c=>Option.casesOn (motive:=fun _=>Option Bool) (eqPL ks l m) none (fun d=>some (cond c d false))) = some c:=h
      obtain ⟨c1,h1,h2⟩:=x0W (z:=(none : Option Bool)) h (by simp)
      obtain ⟨c2,h3,h4⟩:=x0W (z:=(none : Option Bool)) h2 (by simp)
      cases h4
      exact ⟨v,l,w,m,c1,c2,rfl,rfl,h1,h3,rfl⟩
theorem v5S (f : Field) (fs : List Field) (i : Nat) : eqFs P (f :: fs) i = cond (cond (f.name != "_") (Nat.beq f.offset i) false) ((ekOf (P.underlying f.type)).bind fun k=>(eqFs P fs (i + 1)).map fun r=>k :: r) none:=rfl
theorem y5B {t : TypeId} {k : EK} (ht : ekOf (P.underlying t) = some k) (cs : Array Value) (i : Nat) {v : Value} (hi : cs[i]? = some v) : prun P (part t cs i) = some v:=by
  have hu : ∃ d,P.underlying t = some d /\ prun P (isAgg t) = some false:=by
    unfold ekOf at ht
    split at ht <;> first | (cases ht; done) | skip
    all_goals
      rename_i e
      refine ⟨_,e, ?_⟩
      unfold isAgg
      rw [x0F,x0U e]
      rfl
  obtain ⟨_,_,hu⟩:=hu
  unfold part
  rw [x0F,hu,Option.bind_some]
  simp only [Bool.false_eq_true,if_false,hi]
  rfl
theorem eqLoop {xs ys : Array Value} {f : Field -> Option Bool × Unit -> Sem (ForInStep (Option Bool × Unit))} {d : Nat}
    (hf : ∀ (g : Field) (k : EK) (v w : Value) (c : Bool) (r : Option Bool × Unit),g.name ≠ "_" -> ekOf (P.underlying g.type) = some k -> xs[g.offset]? = some v -> ys[g.offset]? = some w -> prun P (Op.equalIn (d + 1) g.type v w) = some c -> prun P (f g r) = some (cond c (.yield (none,())) (.done (some false,())))) :
    ∀ (fs : List Field) (ks : List EK) (i : Nat) (l m : List (PV D)) (c : Bool),eqFs P fs i = some ks -> eqPL ks l m = some c -> RepL V μ H M l (xs.toList.drop i) -> RepL V μ H M m (ys.toList.drop i) ->
      goF P f fs (none,()) = some (cond c none (some false),()) /\ all0 (xs.toList.drop i) = true /\ all0 (ys.toList.drop i) = true
  | [],ks,i,l,m,c,h1,h2,hl,hm=>by
    cases h1
    rw [eqPL_nil] at h2
    split at h2
    . cases h2
      generalize xs.toList.drop i = a at hl |-
      generalize ys.toList.drop i = b at hm |-
      cases hl; cases hm
      exact ⟨rfl,rfl,rfl⟩
    . cases h2
  | g :: fs,ks,i,l,m,c,h1,h2,hl,hm=>by
    rw [v5S] at h1
    obtain ⟨h3,h4⟩:=x0B h1
    obtain ⟨h5,h6⟩:=x0D h3
    obtain ⟨k,h7,h8⟩:=x0A h4
    obtain ⟨ks',h9,rfl⟩:=x0C h8
    obtain ⟨v,l',w,m',c1,c2,rfl,rfl,e1,e2,rfl⟩:=v5P h2
    have hoff : g.offset = i:=Nat.eq_of_beq_eq_true h6
    have dx : ∀ (q : List Value) (j : Nat) {v : PV D} {l : List (PV D)}, RepL V μ H M (v :: l) (q.drop j) -> ∃ x,q[j]? = some x /\ Rep V μ H M v x /\ RepL V μ H M l (q.drop (j + 1)) /\ q.drop j = x :: q.drop (j + 1):=fun q j v l h=>by
      generalize hz : q.drop j = z at h
      cases h with
      | cons _ x _ t hv ht =>
        have hq : q[j]? = some x:=by
          have:=congrArg (·[0]?) hz
          simpa using this
        have h3 : q.drop (j + 1) = t:=by rw [<- List.drop_drop,hz]; rfl
        exact ⟨x,hq,hv,by rw [h3]; exact ht,by rw [h3]⟩
    obtain ⟨x,hx1,hx2,hx3,hx4⟩:=dx _ _ hl
    obtain ⟨y,hy1,hy2,hy3,hy4⟩:=dx _ _ hm
    obtain ⟨p1,p2,p3⟩:=eqP1_ok (P:=P) e1 hx2 hy2
    have ih:=eqLoop hf fs ks' (i + 1) l' m' c2 h9 e2 hx3 hy3
    have hr:=hf g k x y c1 (none,()) (by simpa using h5) h7 (by rw [hoff]; simpa using hx1) (by rw [hoff]; simpa using hy1) (p3 d _ h7)
    refine ⟨?_, ?_, ?_⟩
    . show (prun P (f g (none,()))).bind _ = _
      rw [hr]
      cases c1
      . rfl
      . exact ih.1
    . rw [hx4]
      show cond (x5A x) (all0 _) false = true
      rw [p1,ih.2.1]; rfl
    . rw [hy4]
      show cond (x5A y) (all0 _) false = true
      rw [p2,ih.2.2]; rfl
theorem eqAgg {t : TypeId} {fs : Array Field} {ks : List EK} {k : EK} (hu : P.underlying t = some (.struct fs)) (hk : eqKs P t fs.toList = k :: ks) {xs ys : Array Value} {l m : List (PV D)} {c : Bool} (h : eqPL (k :: ks) l m = some c) (hl : RepL V μ H M l xs.toList) (hm : RepL V μ H M m ys.toList) :
    prun P (Op.equal t (.agg xs) (.agg ys)) = some c /\ all0 xs.toList = true /\ all0 ys.toList = true /\ P.eqGuardType P.depth t = false:=by
  unfold eqKs at hk
  cases hb : (cond (P.stoodInHeld t) true (P.eqGuardType P.depth t)) with
  | true=>rw [hb] at hk; cases hk
  | false =>
    rw [hb] at hk
    have hs : P.stoodInHeld t = false /\ P.eqGuardType P.depth t = false:=by
      cases hq : P.stoodInHeld t with
      | true=>rw [hq] at hb; cases hb
      | false=>rw [hq] at hb; exact ⟨rfl,hb⟩
    have hk : (match eqFs P fs.toList 0 with | some l=>l | none=>[]) = k :: ks:=hk
    split at hk
    . rename_i ks' he
      subst hk
      have hprog : prun P program = some P:=rfl
      have key := eqLoop (P := P) (xs := xs) (ys := ys) (d := 9998) (f := fun f (_ : Option Bool × Unit) => do
          if f.name ≠ "_" then
            let a <- part f.type xs f.offset
            let b <- part f.type ys f.offset
            let r <- Op.equalIn 9999 f.type a b
            if (!r) = true then pure (ForInStep.done (some false,())) else pure (ForInStep.yield (none,()))
          else pure (ForInStep.yield (none,()))) (fun g k v w c r h1 h2 h3 h4 h5=>by
        simp only [ne_eq,h1,not_false_eq_true,if_true,x0F,y5B h2 xs _ h3,y5B h2 ys _ h4,Option.bind_some,h5]
        cases c <;> rfl) fs.toList _ 0 l m c he h (by simpa using hl) (by simpa using hm)
      refine ⟨?_,by simpa using key.2.1,by simpa using key.2.2,hs.2⟩
      show prun P (Op.equalIn (9999 + 1) t _ _) = _
      unfold Op.equalIn
      rw [x0F,x0U hu]
      simp only [x0F,hprog,Option.bind_some,hs.1,Bool.false_eq_true,if_false]
      rw [<- Array.forIn_toList,y9D]
      refine (congrArg (fun z=>Option.bind z _) key.1).trans ?_
      cases c <;> rfl
    . cases hk
theorem aeq_ok {neg : Bool} {t yt : TypeId} {x y : Operand} (ho : o.op = .binOp (cond neg .neq .eql) t x y yt) {fs : Array Field} {ks : List EK} {k : EK} (hu : P.underlying t = some (.struct fs)) (hk : eqKs P t fs.toList = k :: ks) {xs ys : Array Value} (hx : ev T x = .agg xs) (hy : ev T y = .agg ys)
    {l m : List (PV D)} {c : Bool} (h : eqPL (k :: ks) l m = some c) (hl : RepL V μ H M l xs.toList) (hm : RepL V μ H M m ys.toList) : ValS P o T (.bool (negB neg c)):=by
  obtain ⟨he,p1,p2,hg⟩:=eqAgg hu hk h hl hm
  have hguard : ∀ op' : BinOp,prun P (eqGuard op' t x y (.agg xs) (.agg ys)) = some ():=fun op'=>by
    have hprog : prun P program = some P:=rfl
    cases op' <;> first | rfl | (simp [eqGuard,x0F,hprog,hg,x2S])
  refine x8G ho rfl (by rw [hx]; exact p1) (by rw [hy]; exact p2) (fun i j h=>by rw [hx] at h; cases h.1) (x8W ho (by rw [hx,hy]; exact hguard _) ?_)
  rw [hx,hy]
  cases neg
  . have : binOp .eql t (.agg xs) (.agg ys) = (do pure (.bool (<- Op.equal t (.agg xs) (.agg ys)))):=rfl
    show prun P (binOp .eql t (.agg xs) (.agg ys)) = _
    rw [this,x0F,he]; rfl
  . have : binOp .neq t (.agg xs) (.agg ys) = (do pure (.bool (!(<- Op.equal t (.agg xs) (.agg ys))))):=rfl
    show prun P (binOp .neq t (.agg xs) (.agg ys)) = _
    rw [this,x0F,he]; rfl
end
end Go.Yec
namespace Go.Yec
open Go Go.Xec
variable [GT]
section
variable {D : Type} {V : D -> List (PV D)} {μ : Mu} {H : Hp} {P : Program} {o : Oper} {T : Tm} {ρ : Yd -> PV D} {X : Nat -> Prop} {B : Bt D} {m n : Nat}
def ValR (P : Program) (o : Oper) (T : Tm) (V : D -> List (PV D)) (μ : Mu) (H : Hp) (M : Nat -> Prop) (v : PV D) : Prop:= ∃ w,Rep V μ H M v w /\ ValS P o T w
def Got (r : OpR D) (v : PV D) : Prop:=r = .val v \/ r = .par true v
theorem x1D {v w : PV D} (h : Got (.val v) w) : v = w:=by
  rcases h with h | h <;> cases h; rfl
theorem x3B {b : Bool} {v w : PV D} (h : Got (.par b v) w) : b = true /\ v = w:=by
  rcases h with h | h <;> cases h; exact ⟨rfl,rfl⟩
theorem x0L {w : PV D} (h : Got .bad w) : False:=by
  rcases h with h | h <;> cases h
theorem z2U {b : Bool} {r : OpR D} {w : PV D} (h : Got (cond b r .bad) w) : b = true /\ Got r w:=by
  cases b
  . exact (x0L h).elim
  . exact ⟨rfl,h⟩
theorem u5L {x y : PV D} {f : IntKind -> Int -> Int -> OpR D} {w : PV D} (h : Got (onI2 x y f) w) : ∃ k a b,x = .int k a /\ y = .int k b /\ Got (f k a b) w:=by
  rcases h with h | h
  . obtain ⟨k,a,b,h1,h2,h3⟩:=u4Q h (by simp); exact ⟨k,a,b,h1,h2, .inl h3⟩
  . obtain ⟨k,a,b,h1,h2,h3⟩:=u4Q h (by simp); exact ⟨k,a,b,h1,h2, .inr h3⟩
theorem got_I2' {x y : PV D} {f : IntKind -> Int -> Int -> OpR D} {w : PV D} (h : Got (u7L x y f) w) : ∃ k a k' b,x = .int k a /\ y = .int k' b /\ Got (f k a b) w:=by
  rcases h with h | h
  . obtain ⟨k,a,k',b,h1,h2,h3⟩:=z6J h (by simp); exact ⟨k,a,k',b,h1,h2, .inl h3⟩
  . obtain ⟨k,a,k',b,h1,h2,h3⟩:=z6J h (by simp); exact ⟨k,a,k',b,h1,h2, .inr h3⟩
theorem y6E {α : Type} {o : Option α} {f : α -> OpR D} {w : PV D} (h : Got (Option.casesOn (motive:=fun _=>OpR D) o .bad f) w) : ∃ a,o = some a /\ Got (f a) w:=by
  cases o with
  | none=>exact (x0L h).elim
  | some a=>exact ⟨a,rfl,h⟩
variable (hρ : OpdR V μ H (MX X μ B) T ρ) (hr : HR V X μ B m H n)
include hρ
theorem x2D {x : Operand} {a : Yd} (hx : ydO x = some a) {k : IntKind} {i : Int} (h : ρ a = .int k i) : ev T x = .int k i:=(h ▸ hρ x a hx : Rep V μ H (MX X μ B) (.int k i) (ev T x)).int_of
theorem z3T {x : Operand} {a : Yd} (hx : ydO x = some a) {b : Bool} (h : ρ a = .bool b) : ev T x = .bool b:=(h ▸ hρ x a hx : Rep V μ H (MX X μ B) (.bool b) (ev T x)).bool_of
theorem x6U {x : Operand} {a : Yd} (hx : ydO x = some a) {s : List UInt8} (h : ρ a = .str s) : ∃ b : ByteArray,b.data.toList = s /\ ev T x = .string b:=(h ▸ hρ x a hx : Rep V μ H (MX X μ B) (.str s) (ev T x)).str_of
omit hρ in
theorem u5Q {t yt : TypeId} {x y : Operand} {neg : Bool} (ho : o.op = .binOp (cond neg .neq .eql) t x y yt) {X' Y' : Value} {c : Bool} (e1 : ev T x = X') (e2 : ev T y = Y') (p1 : plain X' = true) (p2 : plain Y' = true) (hi : ∀ i,X' ≠ .int .i64 i) (he : prun P (Op.equal t X' Y') = some c)
    (hg : ∀ op' : BinOp,prun P (eqGuard op' t x y X' Y') = some ()) (b1 : binOp .eql t X' Y' = (do pure (.bool (<- Op.equal t X' Y')))) (b2 : binOp .neq t X' Y' = (do pure (.bool (!(<- Op.equal t X' Y'))))) : ValS P o T (.bool (negB neg c)):=by
  refine x8G ho rfl (by rw [e1]; exact p1) (by rw [e2]; exact p2) (fun i j hh=>hi i (e1 ▸ hh.1)) (x8W ho (by rw [e1,e2]; exact hg _) ?_)
  rw [e1,e2]
  cases neg
  . show prun P (binOp .eql t X' Y') = _
    rw [b1,x0F,he]; rfl
  . show prun P (binOp .neq t X' Y') = _
    rw [b2,x0F,he]; rfl
omit hρ in
theorem eq_ref {t yt : TypeId} {x y : Operand} {neg : Bool} (ho : o.op = .binOp (cond neg .neq .eql) t x y yt) {X' Y' : Value} {c : Bool} (e1 : ev T x = X') (e2 : ev T y = Y') (p : cond (plain X') (plain Y') false = false) (he : eqOp (eqK (P.underlying t)) X' Y' = some c) (hi : ∀ i,X' ≠ .int .i64 i) : ValS P o T (.bool (negB neg c)):=by
  intro H2 n2
  have hc : (x0N P o).f T H2 n2 = (y2Z P o t x y (cond neg .neq .eql)).f T H2 n2:=by unfold x0N; rw [ho]
  rw [hc]
  have hev : ∀ op' : BinOp,x4F P T H2 n2 o op' t (ev T x) (ev T y) = evEq P t op' X' Y' H2 n2:=fun op'=>by
    unfold x4F
    rw [e1,e2,p]
    rfl
  have hoI : ∀ (f : Int -> Int -> OR) (els : OR),x3J (ev T x) (ev T y) f els = els:=fun f els=>by
    unfold x3J
    split
    . rename_i i j q1 q2; exact absurd (e1 ▸ q1) (hi i)
    . rfl
  cases neg
  . show x3J (ev T x) (ev T y) _ (x4F P T H2 n2 o .eql t (ev T x) (ev T y)) = _
    rw [hoI,hev]; unfold evEq; rw [he]; rfl
  . show x3J (ev T x) (ev T y) _ (x4F P T H2 n2 o .neq t (ev T x) (ev T y)) = _
    rw [hoI,hev]; unfold evEq; rw [he]; rfl
omit hρ in
theorem z6Q (neg : Bool) : negB neg true = !neg:=by cases neg <;> rfl
omit hρ in
theorem u7N (neg : Bool) : negB neg false = neg:=by cases neg <;> rfl
theorem eqp {t yt : TypeId} {x y : Operand} {op : BinOp} (ho : o.op = .binOp op t x y yt) {e : TypeId} (hu : P.underlying t = some (.pointer e)) (neg : Bool) (hop : op = cond neg .neq .eql) {q : YOp} (hc : y2 (.eqnil false neg) x y = some q) {v : PV D} (h : Got (opR B ρ q) v) : ValR P o T V μ H (MX X μ B) v:=by
  obtain ⟨a,b,ha,hb,rfl⟩:=x0T hc
  subst hop
  have r1:=hρ x a ha
  have r2:=hρ y b hb
  have h : Got (match false, ρ a, ρ b with
    | false, .nilp, .nilp=> .val (.bool (!neg))
    | false, .lptr _ _, .nilp=> .val (.bool neg)
    | false, .nilp, .lptr _ _=> .val (.bool neg)
    | false, .fptr _, .nilp=> .val (.bool neg)
    | false, .nilp, .fptr _=> .val (.bool neg)
    | true, .nils, .nils=> .val (.bool (!neg))
    | _,_,_=> .bad) v:=h
  have hk : eqK (P.underlying t) = .ptr:=by rw [hu]; rfl
  split at h <;> first | exact (x0L h).elim | (rename_i hh _ _; cases hh; done) | skip
  all_goals
    rename_i h1 h2
    rw [h1] at r1
    rw [h2] at r2
    obtain rfl:=x1D h
    refine ⟨_, .bool _, ?_⟩
  . rw [<- z6Q]
    cases hx : ev T x <;> rw [hx] at r1 <;> cases r1
    cases hy : ev T y <;> rw [hy] at r2 <;> cases r2
    refine u5Q ho hx hy rfl rfl (by simp) ?_ (fun op'=>by unfold eqGuard; split <;> rfl) rfl rfl
    show prun P (Op.equalIn (9999 + 1) t _ _) = _
    unfold Op.equalIn
    rw [x0F,x0U hu]
    rfl
  all_goals
    rw [<- u7N neg]
    cases hx : ev T x <;> rw [hx] at r1 <;> cases r1
    all_goals
      cases hy : ev T y <;> rw [hy] at r2 <;> cases r2
      exact eq_ref ho hx hy rfl (by rw [hk]; rfl) (by simp)
theorem eqs {t yt : TypeId} {x y : Operand} {op : BinOp} (ho : o.op = .binOp op t x y yt) {e : TypeId} (hu : P.underlying t = some (.slice e)) (neg : Bool) (hop : op = cond neg .neq .eql) {q : YOp} (hc : y2 (.eqnil true neg) x y = some q) {v : PV D} (h : Got (opR B ρ q) v) : ValR P o T V μ H (MX X μ B) v:=by
  obtain ⟨a,b,ha,hb,rfl⟩:=x0T hc
  subst hop
  have r1:=hρ x a ha
  have r2:=hρ y b hb
  have h : Got (match true, ρ a, ρ b with
    | false, .nilp, .nilp=> .val (.bool (!neg))
    | false, .lptr _ _, .nilp=> .val (.bool neg)
    | false, .nilp, .lptr _ _=> .val (.bool neg)
    | false, .fptr _, .nilp=> .val (.bool neg)
    | false, .nilp, .fptr _=> .val (.bool neg)
    | true, .nils, .nils=> .val (.bool (!neg))
    | _,_,_=> .bad) v:=h
  split at h <;> first | exact (x0L h).elim | (rename_i hh _ _; cases hh; done) | skip
  all_goals
    rename_i h1 h2
    rw [h1] at r1
    rw [h2] at r2
    obtain rfl:=x1D h
    refine ⟨_, .bool _, ?_⟩
    rw [<- z6Q]
    cases hx : ev T x <;> rw [hx] at r1 <;> cases r1
    cases hy : ev T y <;> rw [hy] at r2 <;> cases r2
    refine u5Q ho hx hy rfl rfl (by simp) ?_ (fun op'=>by unfold eqGuard; split <;> rfl) rfl rfl
    show prun P (Op.equalIn (9999 + 1) t _ _) = _
    unfold Op.equalIn
    rw [x0F,x0U hu]
    rfl
theorem bin_got {op : BinOp} {t yt : TypeId} {x y : Operand} (ho : o.op = .binOp op t x y yt) {q : YOp} (hc : yBin P op t x y = some q) {v : PV D} (h : Got (opR B ρ q) v) : ValR P o T V μ H (MX X μ B) v:=by
  unfold yBin at hc
  split at hc
  . rename_i k hu
    have ari : ∀ {q}, y2 (.ari op) x y = some q -> Got (opR B ρ q) v -> ValR P o T V μ H (MX X μ B) v:=fun hc h=>by
      obtain ⟨a,b,ha,hb,rfl⟩:=x0T hc
      obtain ⟨k,i,j,h1,h2,h3⟩:=u5L (x:= ρ a) (y:= ρ b) h
      rcases h3 with h3 | h3
      . exact ari_ok ho (x2D hρ ha h1) (x2D hρ hb h2) h3
      . unfold ariR at h3; split at h3 <;> cases h3
    have dv : ∀ {q}, y2 (.div op) x y = some q -> Got (opR B ρ q) v -> ValR P o T V μ H (MX X μ B) v:=fun hc h=>by
      obtain ⟨a,b,ha,hb,rfl⟩:=x0T hc
      obtain ⟨k,i,j,h1,h2,h3⟩:=u5L (x:= ρ a) (y:= ρ b) h
      rcases h3 with h3 | h3
      . unfold divR at h3; split at h3 <;> cases h3
      . exact div_ok ho (x2D hρ ha h1) (x2D hρ hb h2) h3 rfl
    have sh : ∀ {q}, y2 (.shf op) x y = some q -> Got (opR B ρ q) v -> ValR P o T V μ H (MX X μ B) v:=fun hc h=>by
      obtain ⟨a,b,ha,hb,rfl⟩:=x0T hc
      obtain ⟨k,i,k',j,h1,h2,h3⟩:=got_I2' (x:= ρ a) (y:= ρ b) h
      rcases h3 with h3 | h3
      . unfold shfR at h3; split at h3 <;> cases h3
      . exact shf_ok ho (x2D hρ ha h1) (x2D hρ hb h2) h3 rfl
    have cm : ∀ {q}, y2 (.cmp op) x y = some q -> Got (opR B ρ q) v -> ValR P o T V μ H (MX X μ B) v:=fun hc h=>by
      obtain ⟨a,b,ha,hb,rfl⟩:=x0T hc
      obtain ⟨k,i,j,h1,h2,h3⟩:=u5L (x:= ρ a) (y:= ρ b) h
      rcases h3 with h3 | h3
      . exact cmp_ok ho (x2D hρ ha h1) (x2D hρ hb h2) h3
      . unfold cmpR at h3; split at h3 <;> cases h3
    split at hc <;> first | exact ari hc h | exact dv hc h | exact sh hc h | exact cm hc h
  . rename_i hu
    have bb : ∀ (neg : Bool) {q}, op = cond neg .neq .eql -> y2 (.beq neg) x y = some q -> Got (opR B ρ q) v -> ValR P o T V μ H (MX X μ B) v:=fun neg q hop hc h=>by
      obtain ⟨a,b,ha,hb,rfl⟩:=x0T hc
      have h : Got (match ρ a, ρ b with | .bool a, .bool b=> .val (.bool (negB neg (a == b))) | _,_=> .bad) v:=h
      split at h
      . rename_i i j h1 h2
        obtain rfl:=x1D h
        exact ⟨_, .bool _,beq_ok (hop ▸ ho) hu (z3T hρ ha h1) (z3T hρ hb h2)⟩
      . exact (x0L h).elim
    split at hc
    . exact bb false rfl hc h
    . exact bb true rfl hc h
    . cases hc
  . have ss : ∀ (neg : Bool) {q}, op = cond neg .neq .eql -> y2 (.scmp neg) x y = some q -> Got (opR B ρ q) v -> ValR P o T V μ H (MX X μ B) v := fun neg q hop hc h => by
      obtain ⟨a,b,ha,hb,rfl⟩:=x0T hc
      have h : Got (match ρ a, ρ b with | .str a, .str b=> .val (.bool (negB neg (decide (a = b)))) | _,_=> .bad) v:=h
      split at h
      . rename_i i j h1 h2
        obtain rfl:=x1D h
        obtain ⟨u,rfl,e1⟩:=x6U hρ ha h1
        obtain ⟨w,rfl,e2⟩:=x6U hρ hb h2
        exact ⟨_, .bool _,scmp_ok (hop ▸ ho) e1 e2⟩
      . exact (x0L h).elim
    split at hc
    . obtain ⟨a,b,ha,hb,rfl⟩:=x0T hc
      have h : Got (match ρ a, ρ b with | .str a, .str b=> .par (decide (a.length + b.length < 9223372036854775808)) (.str (a ++ b)) | _,_=> .bad) v:=h
      split at h
      . rename_i i j h1 h2
        obtain ⟨h3,rfl⟩:=x3B h
        obtain ⟨u,rfl,e1⟩:=x6U hρ ha h1
        obtain ⟨w,rfl,e2⟩:=x6U hρ hb h2
        obtain ⟨r1,r2⟩:=scat_ok (V:=V) (μ := μ) (H:=H) (M:=MX X μ B) ho e1 e2 (of_decide_eq_true h3)
        exact ⟨_,r1,r2⟩
      . exact (x0L h).elim
    . exact ss false rfl hc h
    . exact ss true rfl hc h
    . cases hc
  . rename_i e hu
    split at hc
    . exact eqp hρ ho hu false rfl hc h
    . exact eqp hρ ho hu true rfl hc h
    . cases hc
  . rename_i e hu
    split at hc
    . exact eqs hρ ho hu false rfl hc h
    . exact eqs hρ ho hu true rfl hc h
    . cases hc
  . rename_i fs hu
    have aa : ∀ (neg : Bool) {q}, op = cond neg .neq .eql -> y2 (.aeq neg (eqKs P t fs.toList)) x y = some q -> Got (opR B ρ q) v -> ValR P o T V μ H (MX X μ B) v:=fun neg q hop hc h=>by
      obtain ⟨a,b,ha,hb,rfl⟩:=x0T hc
      have r1:=hρ x a ha
      have r2:=hρ y b hb
      have h : Got (match ρ a, ρ b with
        | .agg l, .agg m=>List.casesOn (motive:=fun _=>OpR D) (eqKs P t fs.toList) .bad (fun k ks=>Option.casesOn (motive:=fun _=>OpR D) (eqPL (k :: ks) l m) .bad (fun c=> .val (.bool (negB neg c))))
        | _,_=> .bad) v:=h
      split at h
      . rename_i l m h1 h2
        rw [h1] at r1
        rw [h2] at r2
        cases hk : eqKs P t fs.toList with
        | nil=>rw [hk] at h; exact (x0L h).elim
        | cons k ks =>
          rw [hk] at h
          have h : Got (Option.casesOn (motive:=fun _=>OpR D) (eqPL (k :: ks) l m) .bad (fun c=> .val (.bool (negB neg c)))) v:=h
          obtain ⟨c,h3,h4⟩:=y6E h
          obtain rfl:=x1D h4
          generalize hx : ev T x = X' at r1
          generalize hy : ev T y = Y' at r2
          cases r1 with
          | agg _ xs hl=>cases r2 with
            | agg _ ys hm=>exact ⟨_, .bool _,aeq_ok (hop ▸ ho) hu hk hx hy h3 hl hm⟩
      . exact (x0L h).elim
    split at hc
    . exact aa false rfl hc h
    . exact aa true rfl hc h
    . cases hc
  . cases hc
end
end Go.Yec
