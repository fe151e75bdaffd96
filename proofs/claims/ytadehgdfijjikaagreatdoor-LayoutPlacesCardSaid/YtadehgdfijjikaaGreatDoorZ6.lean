/- PLAIN LEAN -/
import Derived.Test.YtadehgdfijjikaaGreatDoorZ5
import Derived.Test.YtadehgdfijjikaaGreatDoorS5
set_option linter.all false
namespace Go.Shp
open Go Go.Yec Go.Proofs
theorem goL_at:∀{P:List Sh} {e e':Un} {a a':List Int} {ns ns':List Nd},x2S e->(∀p∈P,∀n,mpS p=some n->x2S n.u)->(∀x∈a,0<=x/\x<=524352)->goL P e a ns=some (e',a',ns')->∀x∈a',0<=x/\x<=524352|[],e,e',a,a',ns,ns',_,_,ha,h=>by{unfold goL at h;cases h;exact ha}|q::P,e,e',a,a',ns,ns',he,hP,ha,h=>by unfold goL at h;obtain⟨n,hq,h⟩:=JM.1 h;have hn:=hP q (by simp) n hq;split at h;{cases h};rename_i aQ;refine goL_at (y1F he hn (by omega)) (fun p hp=>hP p (by simp[hp])) ?_ h;intro x hx;rcases Jh.1 hx with hx|hx;{exact ha x hx};have hg:=u5Y he hn;have hb:=he.2.2.2;simp at hx;subst hx;omega
theorem mp_at {s:Sh}{dm lv:Int}(hv:EE s dm lv=true){n:Nd}(h:mpS s=some n):∀x∈n.at',0<=x/\x<=524352:=by obtain⟨D,P,t,g⟩:=s;obtain⟨-,-,-,-,hP⟩:=x3C hv;unfold mpS at h;obtain⟨⟨e,a,ns⟩,he,h⟩:=JM.1 h;obtain⟨⟨r,m⟩,hs,rfl⟩:=Jo.1 h;show∀x∈a,0<=x/\x<=524352;cases P with|nil=>{unfold elL at he;cases he;intro x hx;cases hx}|cons q P=>unfold elL at he;obtain⟨n,hq,he⟩:=JM.1 he;exact goL_at (x5S q _ _ (hP q (by simp)) n hq) (fun p hp m hm=>x5S p _ _ (hP p (by simp[hp])) m hm) (by intro x hx;simp at hx;subst hx;omega) he
theorem stR_st:∀{D:List (Int×Int)} {nx all r:Int} {l m:List Int},(∀d∈D,d.1<=d.2/\d.2-d.1<=65535)->1<=nx->nx<=1048576->0<=all->(∀x∈l,1<=x/\x<=1048576)->stR D nx all l=some (r,m)->∀x∈m,1<=x/\x<=1048576|[],nx,all,r,l,m,_,_,_,_,hl,h=>by{unfold stR at h;cases h;exact hl}|d::D,nx,all,r,l,m,hd,h1,h2,h0,hl,h=>by unfold stR at h;split at h;{cases h};rename_i aQ;have kM:=hd d (by simp);have hm:=z9S (n:=d.2-d.1) (by omega) (by omega) h1 h2;have hn:=z2F (n:=d.2-d.1+1) (by omega) h1 h2 (by rw[show d.2-d.1+1-1=d.2-d.1 by omega];omega);refine stR_st (fun e he=>hd e (by simp[he])) hn.1 hn.2 (by omega) ?_ h;intro x hx;rcases JA.1 hx with rfl|hx;{exact⟨h1,h2⟩};exact hl x hx
theorem y0S {s:Sh}{dm lv:Int}(hv:EE s dm lv=true){i:Nat}{p:Sh}(hp:s.P[i]? =some p):EE p (dm+s.D.length) (lv+1)=true:=by obtain⟨D,P,t,g⟩:=s;obtain⟨-,-,-,-,hP⟩:=x3C hv;exact hP p (Jy hp)
theorem z2W {s:Sh}(h:okS s){i:Nat}{p:Sh}(hp:s.P[i]? =some p):okS p:=by obtain⟨D,P,t,g⟩:=s;exact y0V h.2.2.2 p (Jy hp)
end Go.Shp
