/-
  find of a node of the layout, walked.
-/
import Derived.Test.YtadehgdfijjikaaGreatDoorS7
import Derived.Test.YtadehgdfijjikaaGreatDoorZ6
set_option linter.all false
namespace Go.Proofs
open Go.RowKit Go.Yec Go.Shp Go.Deep
open Go.Xec (Glob)
theorem node_open {W:World} {B:Nat} {s:Sh} {n:Nd} (h:x2D (fun b=>b<W.heap.size) W B s n):B<W.heap.size/\∃ da dcap sa scap aa acap qa qcap,
    (∀ w,Below W.heap.size W w->w.cell? ⟨B, 0,none⟩=some (.slice da s.D.length dcap)/\w.cell? ⟨B, 8,none⟩=some (.int .i64 n.u.s)/\w.cell? ⟨B, 9,none⟩=some (.int .i64 n.u.b)/\w.cell? ⟨B, 12,none⟩=some (.int .i64 n.e.b)/\w.cell? ⟨B, 14,none⟩=some (.slice sa n.st.length scap)/\w.cell? ⟨B, 15,none⟩=some (.slice aa n.at'.length acap)/\w.cell? ⟨B, 16,none⟩=some (.slice qa s.P.length qcap)) /\
    DmS (fun b=>b<W.heap.size) W (.slice da s.D.length dcap) s.D/\x3K (fun b=>b<W.heap.size) W (.slice sa n.st.length scap) n.st/\x3K (fun b=>b<W.heap.size) W (.slice aa n.at'.length acap) n.at' /\
    (s.P≠[]->∃ b o,qa=some ⟨b,o,none⟩/\b<W.heap.size/\∀ i p,s.P[i]? = some p->∃ m Bm,n.ps[i]? = some m/\(∀ w,Below W.heap.size W w->w.cell? ⟨b,o+i,none⟩=some (.pointer (some ⟨Bm, 0,none⟩)))/\x2D (fun b=>b<W.heap.size) W Bm p m):=by
  obtain ⟨D,P,t,g⟩:=s;obtain ⟨u,e,st,at0,ps⟩:=n;unfold x2D at h;obtain ⟨hBl,dv,pv0,stv,av,qv,hc,hD, -, hst,hat,qa,qcap,rfl,h0,hps⟩:=h;obtain ⟨da,dcap,rfl, -⟩:=id hD;obtain ⟨sa,scap,rfl, -⟩:=id hst;obtain ⟨aa,acap,rfl, -⟩:=id hat;refine ⟨hBl,da,dcap,sa,scap,aa,acap,qa,qcap,fun w hb=> ?_,hD,hst,hat,fun hne=> ?_⟩
  . have k:=fun i (hi:i<17)=>(hb.cell (p:=⟨B,i,none⟩) hBl).trans (hc i hi);exact ⟨k 0 (by omega),k 8 (by omega),k 9 (by omega),k 12 (by omega),k 14 (by omega),k 15 (by omega),k 16 (by omega)⟩
  . obtain ⟨b,o,ha,hb⟩:=h0 hne;refine ⟨b,o,ha,hb,fun i p hp=> ?_⟩;obtain ⟨m,Bm,h1,h2,h3⟩:=y0H (hps b o ha) i p hp;exact ⟨m,Bm,h1,fun w hw=>(hw.cell (p:=⟨b,o+i,none⟩) hb).trans h2,h3⟩
end Go.Proofs
