/-
  A shape that came in, opened.
-/
import Derived.Test.YtadehgdfijjikaaGreatDoorS2
import Derived.Test.YtadehgdfijjikaaGreatDoorT3
set_option linter.all false
set_option maxRecDepth 100000
namespace Go.Proofs
open Go.ChangeShapes Go.WideShapes Go.ChangeAt Go.RowKit Go.Joins Go.Deep Go.Yec Go.Shp
section
variable {H:Type} {enc:TypeId×Value->H} {w:World} {base:Nat} {spare:Nat->Bool} {held:Bool}
theorem v7J:Tryz.prog.cellsOf 27=8:=by kernel_rfl
theorem cels3:Tryz.prog.cellsOf 3=1:=by kernel_rfl
theorem cells9:Tryz.prog.cellsOf 9=1:=by kernel_rfl
theorem cells4:Tryz.prog.cellsOf 4=1:=by kernel_rfl
theorem cells78:Tryz.prog.cellsOf 78=2:=by kernel_rfl
theorem v7K:Tryz.prog.cellsOf 25=5:=by kernel_rfl
theorem z1T {w:World}{a:Addr}{v:Value}(h:w.cell? a=some v):a.spot=none:=World.cell?_spot h
theorem v2Y {fuel:Nat}{cs:List Value}{x:DataW H×List MemPlace}(h:DataW.trod enc Tryz.prog w base spare held fuel 23 cs=some x):∃ v D,cs=[v]/\DmAt w v D:=by
  rcases DataW.trod_slice Tryz.underlying23 h with ⟨rfl,rfl⟩ | ⟨a,len,cap,elems,rest,n,rfl,rfl,rfl,hb,hl,hm,am,eO, -, -⟩
  . exact ⟨_,[],rfl,none, 0,rfl,fun h=>absurd rfl h,fun _ _ h=>by cases h⟩
  . rw [cells78] at eO;have key:∀ i,i<len->∃ d:Int×Int,w.cell? (a.add (i*2))=some (.int .i64 d.1)/\w.cell? ((a.add (i*2)).add 1)=some (.int .i64 d.2):=fun i hi=>by
      have e:=eO i hi;rw [List.getElem?_eq_getElem (by omega)] at e
      obtain ⟨cs',h1,h2⟩:=Option.bind_eq_some_iff.1 e;obtain ⟨_,gg,bO⟩:=World.cells?_some h1;obtain ⟨y0,y1,n', -, -, g0,g1⟩:=trod_struct2 Tryz.underlying78 h2
      match cs',gg with
      | [c0,c1],_ =>
        obtain ⟨p,e0, -, -⟩:=DataW.trod_int Tryz.underlying3 g0;obtain ⟨q,e1, -, -⟩:=DataW.trod_int Tryz.underlying3 g1;simp [cels3] at e0 e1;subst e0 e1;have k0:=bO 0 (by omega)
        have k1:=bO 1 (by omega)
        exact ⟨(p,q),by simpa [Addr.add] using k0,by simpa using k1⟩
    obtain ⟨f,hf⟩:=choose_lt key;refine ⟨_,(List.range len).map f,rfl,some a,cap,by simp,fun ac=>?_,fun b o ha i hi=>?_⟩
    . have h0:0<len := by
        rcases Nat.eq_zero_or_pos len with h | h
        . subst h;exact absurd rfl ac
        . exact h
      have k0:=(hf 0 h0).1;rw [Nat.zero_mul] at k0;have k0':w.cell? a=some (.int .i64 (f 0).1):=by simpa [Addr.add] using k0
      have hs:=z1T k0';obtain ⟨b,o,s⟩:=a;simp only at hs;subst hs;exact ⟨b,o,rfl,World.block_lt_of_cell? _ _ k0'⟩
    . cases ha;simp only [List.length_map,List.length_range] at hi;obtain ⟨k0,k1⟩:=hf i hi;rw [add_plain] at k0 k1;rw [add_plain] at k1
      simpa [List.getD,hi] using ⟨k0,k1⟩
theorem open_tyC {fuel:Nat}{cs:List Value}{x:DataW H×List MemPlace}(h:DataW.trod enc Tryz.prog w base spare held fuel 25 cs=some x):∃ t:Ty,cs=tyC t:=by
  obtain ⟨y0,y1,y2,y3,y4,n, -, hl,h0,h1,h2,h3,h4⟩:=y3A Tryz.underlying25 h;rw [v7K] at hl
  match cs,hl with
  | [c0,c1,c2,c3,c4],_ =>
    obtain ⟨k,e0, -, -⟩:=DataW.trod_int Tryz.underlying3 h0;obtain ⟨p,e1, -, -⟩:=DataW.trod_int Tryz.underlying3 h1;obtain ⟨q,e2, -, -⟩:=DataW.trod_int Tryz.underlying3 h2;obtain ⟨v,e3, -⟩:=DataW.trod_bool Tryz.underlying4 h3;obtain ⟨s,e4, -, -⟩:=DataW.trod_string Tryz.underlying9 h4;simp [cels3,cells4,cells9] at e0 e1 e2 e3 e4;subst e0 e1 e2 e3 e4;exact ⟨⟨k,p,q,v,s⟩,rfl⟩
theorem shL_mk {w:World}{b:Nat}:∀ {P:List Sh} {o:Nat}, (∀ i p,P[i]? = some p->∃ dv pv,(∀ j,j<8->w.cell? ⟨b,o+i*8+j,none⟩=(shC dv pv p.t p.g)[j]?)/\ShAt w dv pv p)->ShL w b o P
  | [],_,_=>trivial
  | p::P,o,h=>by
    refine ⟨by simpa using h 0 p rfl,shL_mk fun i q hq=>?_⟩
    obtain ⟨dv,pv,h1,h2⟩:=h (i+1) q (by simpa using hq)
    refine ⟨dv,pv,fun j hj=>?_,h2⟩;rw [show o+8+i*8+j=o+(i+1)*8+j by omega]
    exact h1 j hj
instance:Inhabited Sh:=⟨.node [] [] ⟨0, 0, 0,false,⟨#[]⟩⟩ false⟩
theorem cells23:Tryz.prog.cellsOf 23=1:=by kernel_rfl
theorem cells22:Tryz.prog.cellsOf 22=1:=by kernel_rfl
theorem open_shC:∀ (fuel:Nat) (cs:List Value) (x:DataW H×List MemPlace),DataW.trod enc Tryz.prog w base spare held fuel 27 cs=some x->∃ dv pv s,cs=shC dv pv s.t s.g/\ShAt w dv pv s:=by
  intro fuel
  induction fuel using Nat.strongRecOn with
  | _ fuel ih =>
    intro cs x h;obtain ⟨xs,n,rfl, -, hl,am,hf⟩:=DataW.trod_struct Tryz.underlying27 h;rw [v7J] at hl
    match cs,hl,xs,am with
    | [c0,c1,c2,c3,c4,c5,c6,c7],_,[y0,y1,y2,y3],_ =>
      have h0:DataW.trod enc Tryz.prog w base spare held n 23 [c0]=some y0:=by simpa [cells23] using hf 0 _ rfl
      have h1:DataW.trod enc Tryz.prog w base spare held n 22 [c1]=some y1:=by simpa [cells22] using hf 1 _ rfl
      have h2:DataW.trod enc Tryz.prog w base spare held n 25 [c2,c3,c4,c5,c6]=some y2:=by simpa [v7K] using hf 2 _ rfl
      have h3:DataW.trod enc Tryz.prog w base spare held n 4 [c7]=some y3:=by simpa [cells4] using hf 3 _ rfl
      obtain ⟨dv,D,e0,hD⟩:=v2Y h0;obtain ⟨t,e2⟩:=open_tyC h2;obtain ⟨g,e3, -⟩:=DataW.trod_bool Tryz.underlying4 h3;simp only [List.cons.injEq,and_true,tyC] at e0 e2 e3;obtain ⟨rfl,rfl,rfl,rfl,rfl⟩:=e2;subst e0 e3;rcases DataW.trod_slice Tryz.underlying22 h1 with ⟨e1, -⟩ | ⟨a,len,cap,elems,rest,n',rfl,e1, -, hb,gg,hm,uk,eO, -, -⟩
      . simp only [List.cons.injEq,and_true] at e1;subst e1;exact ⟨_,_, .node D [] t g,rfl,hD,none, 0,rfl,fun h=>absurd rfl h,fun _ _ h=>by cases h⟩
      . simp only [List.cons.injEq,and_true] at e1;subst e1;rw [v7J] at eO;have key:∀ i,i<len->∃ z:Value×Value×Sh,(∀ j,j<8->w.cell? ((a.add (i*8)).add j)=(shC z.1 z.2.1 z.2.2.t z.2.2.g)[j]?)/\ShAt w z.1 z.2.1 z.2.2:=fun i hi=>by
          have e:=eO i hi;rw [List.getElem?_eq_getElem (by omega)] at e
          obtain ⟨cs',g1,g2⟩:=Option.bind_eq_some_iff.1 e;obtain ⟨_,_,bO⟩:=World.cells?_some g1;obtain ⟨dv',pv',s',rfl,bn⟩:=ih n' (by omega) cs' _ g2
          exact ⟨(dv',pv',s'),bO,bn⟩
        obtain ⟨f,uh⟩:=choose_lt key;refine ⟨_,_, .node D ((List.range len).map fun i=>(f i).2.2) t g,rfl,hD,some a,cap,by simp,fun ac=>?_,fun b o ha=>?_⟩
        . have ai:0<len := by
            rcases Nat.eq_zero_or_pos len with h | h
            . subst h;exact absurd rfl ac
            . exact h
          have k0:=(uh 0 ai).1 0 (by omega)
          rw [Nat.zero_mul] at k0;have k0':w.cell? a=some (f 0).1:=by simpa [Addr.add,shC] using k0
          have hs:=z1T k0';obtain ⟨b,o,s⟩:=a;simp only at hs;subst hs;exact ⟨b,o,rfl,World.block_lt_of_cell? _ _ k0'⟩
        . cases ha;refine shL_mk fun i p hp=>?_;have hi:i<len:=by
            have:=List.getElem?_eq_some_iff.1 hp
            simpa using this.1
          have nu:p=(f i).2.2:=by
            simp [hi] at hp;exact hp.symm
          subst nu;obtain ⟨k1,k2⟩:=uh i hi;refine ⟨_,_,fun j hj=>?_,k2⟩
          have:=k1 j hj
          rwa [add_plain,add_plain] at this
theorem open_sh {r:Reach}{b0:Nat}{x:Value}{d:DataW H}{ps:List MemPlace}(hv:Value.okWide Tryz.prog w r b0 27 x)(h:DataW.Trod enc Tryz.prog w base spare held 27 x d ps):∃ dv pv s,x=shV dv pv s.t s.g/\ShAt w dv pv s:=by
  obtain ⟨cs,rfl,bd⟩:=okWide_struct Tryz.underlying27 hv;obtain ⟨fuel,hf⟩:=h;obtain ⟨dv,pv,s,e,hs⟩:=open_shC fuel _ _ hf;refine ⟨dv,pv,s, ?_,hs⟩;obtain ⟨l⟩:=cs;simp only [Value.cells] at e;subst e;rfl
end
end Go.Proofs
