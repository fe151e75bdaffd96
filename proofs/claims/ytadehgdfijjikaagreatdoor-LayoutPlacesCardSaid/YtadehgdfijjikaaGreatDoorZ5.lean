/- PLAIN LEAN -/
import Derived.Test.YtadehgdfijjikaaGreatDoorZ4
set_option linter.all false
namespace Go.Shp
open Go Go.Yec
abbrev Stp:=Int×Int×Int
structure Pl where
 path:List Int
 off:Int
 st:List Stp
 b:Int
 t:Ty
def EZ:Ty:=⟨0,0,0,false,⟨#[]⟩⟩
def pl00:Pl:=⟨[],0,[],0,EZ⟩
def Ww (s:Sh)(n:Nd):List Stp:=List.zipWith (fun d x=>(d.1,d.2,x)) s.D n.st
def plc (s:Sh)(n:Nd)(path:List Int)(off:Int)(st:List Stp):Pl:=⟨path,off,st,n.e.b,cond s.P.isEmpty s.t EZ⟩
def fnd:List Int->Sh->Nd->Int->List Stp->Option (Sh×Nd×Int×List Stp)|[],s,n,off,st=>some (s,n,off,st)|i::path,s,n,off,st=>if 0<=i/\i<s.P.length then(match s.P[i.toNat]?,n.ps[i.toNat]?,n.at'[i.toNat]? with|some p,some m,some a=>fnd path p m (off+a) (st++Ww p m)|_,_,_=>none)else none
noncomputable def Kv (s:Sh)(path:List Int):Pl×Int:=cond (EE s 0 1) (match mpS s with|some n=>(match fnd path s n n.u.s (Ww s n)with|some (s',n',off,st)=>(plc s' n' path off st,0)|none=>(pl00,91))|none=>(pl00,2)) (pl00,90)
theorem v5Y:∀{P:List Sh} {e e':Un} {a a':List Int} {ns ns':List Nd},goL P e a ns=some (e',a',ns')->∃b m,a'=a++b/\ns'=ns++m/\b.length=P.length/\m.length=P.length/\∀(i:Nat) (p:Sh),P[i]? =some p->∃n,m[i]? =some n/\mpS p=some n|[],e,e',a,a',ns,ns',h=>by{unfold goL at h;cases h;exact⟨[],[],by simp,by simp,rfl,rfl,fun i p hp=>by simp at hp⟩}|q::P,e,e',a,a',ns,ns',h=>by unfold goL at h;obtain⟨n,hq,h⟩:=JM.1 h;split at h;{cases h};obtain⟨b,m,rfl,rfl,h1,h2,h3⟩:=v5Y h;refine⟨(e.b+Wj e n.u)::b,n::m,by simp,by simp,by simp[h1],by simp[h2],fun i p hp=>?_⟩;cases i with|zero=>{simp at hp;subst hp;exact⟨n,rfl,hq⟩}|succ i=>simpa using h3 i p (by simpa using hp)
theorem elL_get {P:List Sh}{t:Ty}{g:Bool}{e:Un}{a:List Int}{ns:List Nd}(h:elL P t g=some (e,a,ns)):a.length=P.length/\ns.length=P.length/\∀(i:Nat) (p:Sh),P[i]? =some p->∃n,ns[i]? =some n/\mpS p=some n:=by cases P with|nil=>{unfold elL at h;cases h;exact⟨rfl,rfl,fun i p hp=>by simp at hp⟩}|cons q P=>unfold elL at h;obtain⟨n,hq,h⟩:=JM.1 h;obtain⟨b,m,rfl,rfl,h1,h2,h3⟩:=v5Y h;refine⟨by simp[h1],by simp[h2],fun i p hp=>?_⟩;cases i with|zero=>{simp at hp;subst hp;exact⟨n,rfl,hq⟩}|succ i=>simpa using h3 i p (by simpa using hp)
theorem v1V:∀{D:List (Int×Int)} {nx all r:Int} {l m:List Int},stR D nx all l=some (r,m)->m.length=l.length+D.length|[],nx,all,r,l,m,h=>by{unfold stR at h;cases h;simp}|d::D,nx,all,r,l,m,h=>by unfold stR at h;split at h;{cases h};have:=v1V h;simp at this|-;omega
theorem y6T {s:Sh}{n:Nd}(h:mpS s=some n):n.st.length=s.D.length/\n.at'.length=s.P.length/\n.ps.length=s.P.length/\∀(i:Nat) (p:Sh),s.P[i]? =some p->∃m,n.ps[i]? =some m/\mpS p=some m:=by obtain⟨D,P,t,g⟩:=s;unfold mpS at h;obtain⟨⟨e,a,ns⟩,he,h⟩:=JM.1 h;obtain⟨⟨r,m⟩,hs,rfl⟩:=Jo.1 h;have h1:=elL_get he;have h2:=v1V hs;simp at h2;exact⟨h2,h1.1,h1.2.1,h1.2.2⟩
theorem x6D {s:Sh}{n:Nd}(h:mpS s=some n):(Ww s n).length=s.D.length:=by have:=(y6T h).1;simp[Ww,this]
end Go.Shp
