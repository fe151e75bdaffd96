/-
  A shape in a box, stored anew;the part of a shape.
-/
import Derived.Test.YtadehgdfijjikaaGreatDoorS5
import Derived.Test.YtadehgdfijjikaaGreatDoorS2
import Derived.Test.YtadehgdfijjikaaGreatDoorZ8
set_option linter.all false
namespace Go.Proofs
open Go.RowKit Go.Yec Go.Shp Go.Deep
open Go.Xec (Glob)
section
variable {k G x:Nat} {a w:World} {a0 a1 a2 a3 a4 a5 a6 a7 y0 y1 y2 y3 y4 y5 y6 y7:Value}
theorem bx_heap (hx:x≠G):((((((((w.setCell ⟨G, 0,none⟩ y0).setCell ⟨G, 1,none⟩ y1).setCell ⟨G, 2,none⟩ y2).setCell ⟨G, 3,none⟩ y3).setCell ⟨G, 4,none⟩ y4).setCell ⟨G, 5,none⟩ y5).setCell ⟨G, 6,none⟩ y6).setCell ⟨G, 7,none⟩ y7).heap[x]? = w.heap[x]? :=by
  rw [Below.heap_setCell _ _ _ _ hx,Below.heap_setCell _ _ _ _ hx,Below.heap_setCell _ _ _ _ hx,Below.heap_setCell _ _ _ _ hx,Below.heap_setCell _ _ _ _ hx,Below.heap_setCell _ _ _ _ hx,Below.heap_setCell _ _ _ _ hx,Below.heap_setCell _ _ _ _ hx]
theorem bx_set (h:NB w G #[a0,a1,a2,a3,a4,a5,a6,a7] 27):NB ((((((((w.setCell ⟨G, 0,none⟩ y0).setCell ⟨G, 1,none⟩ y1).setCell ⟨G, 2,none⟩ y2).setCell ⟨G, 3,none⟩ y3).setCell ⟨G, 4,none⟩ y4).setCell ⟨G, 5,none⟩ y5).setCell ⟨G, 6,none⟩ y6).setCell ⟨G, 7,none⟩ y7) G #[y0,y1,y2,y3,y4,y5,y6,y7] 27:=by
  have h0:NB _ G #[y0,a1,a2,a3,a4,a5,a6,a7] 27:=h.set 0 y0;have h1:NB _ G #[y0,y1,a2,a3,a4,a5,a6,a7] 27:=h0.set 1 y1;have h2:NB _ G #[y0,y1,y2,a3,a4,a5,a6,a7] 27:=h1.set 2 y2;have h3:NB _ G #[y0,y1,y2,y3,a4,a5,a6,a7] 27:=h2.set 3 y3;have h4:NB _ G #[y0,y1,y2,y3,y4,a5,a6,a7] 27:=h3.set 4 y4;have h5:NB _ G #[y0,y1,y2,y3,y4,y5,a6,a7] 27:=h4.set 5 y5;have h6:NB _ G #[y0,y1,y2,y3,y4,y5,y6,a7] 27:=h5.set 6 y6;exact h6.set 7 y7
theorem z4C (h:Below k a w)(hG:k <= G):Below k a ((((((((w.setCell ⟨G, 0,none⟩ y0).setCell ⟨G, 1,none⟩ y1).setCell ⟨G, 2,none⟩ y2).setCell ⟨G, 3,none⟩ y3).setCell ⟨G, 4,none⟩ y4).setCell ⟨G, 5,none⟩ y5).setCell ⟨G, 6,none⟩ y6).setCell ⟨G, 7,none⟩ y7) :=
  (((((((h.setCell (p:=⟨G, 0,none⟩) hG _).setCell (p:=⟨G, 1,none⟩) hG _).setCell (p:=⟨G, 2,none⟩) hG _).setCell (p:=⟨G, 3,none⟩) hG _).setCell (p:=⟨G, 4,none⟩) hG _).setCell (p:=⟨G, 5,none⟩) hG _).setCell (p:=⟨G, 6,none⟩) hG _).setCell (p:=⟨G, 7,none⟩) hG _
theorem bx_other {t:Nat}{c:Array Value}(h:NB w x c t)(hx:x≠G):NB ((((((((w.setCell ⟨G, 0,none⟩ y0).setCell ⟨G, 1,none⟩ y1).setCell ⟨G, 2,none⟩ y2).setCell ⟨G, 3,none⟩ y3).setCell ⟨G, 4,none⟩ y4).setCell ⟨G, 5,none⟩ y5).setCell ⟨G, 6,none⟩ y6).setCell ⟨G, 7,none⟩ y7) x c t:=(bx_heap hx).trans h
theorem y5F {t:Nat}(h:NB w G #[a0,a1,a2,a3,a4,a5,a6,a7] t):w.cell? ⟨G, 0,none⟩=some a0/\w.cell? ⟨G, 1,none⟩=some a1/\w.cell? ⟨G, 2,none⟩=some a2/\w.cell? ⟨G, 3,none⟩=some a3/\w.cell? ⟨G, 4,none⟩=some a4/\w.cell? ⟨G, 5,none⟩=some a5/\w.cell? ⟨G, 6,none⟩=some a6/\w.cell? ⟨G, 7,none⟩=some a7/\∀ i,w.frozen? ⟨G,i,none⟩=false :=
  ⟨h.cell 0,h.cell 1,h.cell 2,h.cell 3,h.cell 4,h.cell 5,h.cell 6,h.cell 7,h.frozen⟩
end
abbrev shA (dv pv:Value)(t:Ty)(g:Bool):Array Value:= #[dv,pv, .int .i64 t.k, .int .i64 t.p, .int .i64 t.q, .bool t.v, .string t.pic, .bool g]
theorem prt_step {r q:Sh}{path:List Int}{y:Nat}(h:prtS r (path.drop y)=some q)(hy:y<path.length):∃ i p,path[y]? = some i/\path.getD y 0=i/\0 <= i/\i<r.P.length/\r.P[i.toNat]? = some p/\prtS p (path.drop (y+1))=some q:=by
  rw [List.drop_eq_getElem_cons hy,prtS] at h;split at h
  . rename_i hi;split at h
    . rename_i p hp;exact ⟨_,p,List.getElem?_eq_getElem hy,by rw [List.getD_eq_getElem?_getD,List.getElem?_eq_getElem hy];rfl,hi.1,hi.2,hp,h⟩
    . cases h
  . cases h
theorem prt_end {r q:Sh}{path:List Int}(h:prtS r (path.drop path.length)=some q):r=q:=by
  rw [List.drop_length,prtS] at h;cases h;rfl
theorem v2B {W w:World}{dv pv:Value}{r:Sh}(h:ShAt W dv pv r)(hB:Below W.heap.size W w){i:Nat}{p:Sh}(hp:r.P[i]? = some p) :
    ∃ b o cap a c a' c',pv = .slice (some ⟨b,o,none⟩) r.P.length cap/\b<W.heap.size/\ShAt W (.slice a p.D.length c) (.slice a' p.P.length c') p/\w.cell? ⟨b,o+i*8,none⟩=some (.slice a p.D.length c)/\w.cell? ⟨b,o+i*8+1,none⟩=some (.slice a' p.P.length c')/\w.cell? ⟨b,o+i*8+2,none⟩=some (.int .i64 p.t.k)/\w.cell? ⟨b,o+i*8+3,none⟩=some (.int .i64 p.t.p) /\
      w.cell? ⟨b,o+i*8+4,none⟩=some (.int .i64 p.t.q)/\w.cell? ⟨b,o+i*8+5,none⟩=some (.bool p.t.v)/\w.cell? ⟨b,o+i*8+6,none⟩=some (.string p.t.pic)/\w.cell? ⟨b,o+i*8+7,none⟩=some (.bool p.g):=by
  obtain ⟨D,P,t,g⟩:=r;unfold ShAt at h;obtain ⟨-, pa,cap,rfl,h0,hc⟩:=h;have hi:=(List.getElem?_eq_some_iff.1 hp).1;obtain ⟨b,o,rfl,aM⟩:=h0 (by rintro rfl;simp [Sh.P] at hi)
  obtain ⟨a,c,a',c',s,hs,h1,h2⟩:=part_at hB aM (hc b o rfl) hi;simp only [Sh.P] at hp;rw [hs] at hp;cases hp;exact ⟨b,o,cap,a,c,a',c',rfl,aM,h1,h2⟩
theorem ok_prt {s:Sh}{i:Nat}{p:Sh}(h:okS s)(hp:s.P[i]? = some p):okS p:=z2W h hp
end Go.Proofs
