/-
  find of a node of the layout, walked.
-/
import Derived.Test.YtadehgdfijjikaaGreatDoorS7
import Derived.Test.YtadehgdfijjikaaGreatDoorZ6
set_option linter.all false
namespace Go.Proofs
open Go.RowKit Go.Yec Go.Shp Go.Deep
open Go.Xec (Glob)
theorem z5W {W : World} {B : Nat} {s : Sh} {n : Nd} (h : x2P (fun b=>b < W.heap.size) W B s n) : B < W.heap.size /\ ∃ da dcap sa scap aa acap qa qcap,
    (∀ w,Below W.heap.size W w -> w.cell? ⟨B, 0,none⟩ = some (.slice da s.D.length dcap) /\ w.cell? ⟨B, 8,none⟩ = some (.int .i64 n.u.s) /\ w.cell? ⟨B, 9,none⟩ = some (.int .i64 n.u.b) /\ w.cell? ⟨B, 12,none⟩ = some (.int .i64 n.e.b) /\ w.cell? ⟨B, 14,none⟩ = some (.slice sa n.st.length scap) /\ w.cell? ⟨B, 15,none⟩ = some (.slice aa n.at'.length acap) /\ w.cell? ⟨B, 16,none⟩ = some (.slice qa s.P.length qcap)) /\
    DmS (fun b=>b < W.heap.size) W (.slice da s.D.length dcap) s.D /\ x7R (fun b=>b < W.heap.size) W (.slice sa n.st.length scap) n.st /\ x7R (fun b=>b < W.heap.size) W (.slice aa n.at'.length acap) n.at' /\
    (s.P ≠ [] -> ∃ b o,qa = some ⟨b,o,none⟩ /\ b < W.heap.size /\ ∀ i p,s.P[i]? = some p -> ∃ m Bm,n.ps[i]? = some m /\ (∀ w,Below W.heap.size W w -> w.cell? ⟨b,o + i,none⟩ = some (.pointer (some ⟨Bm, 0,none⟩))) /\ x2P (fun b=>b < W.heap.size) W Bm p m):=by
  obtain ⟨D,P,t,g⟩:=s;obtain ⟨u,e,st,at0,ps⟩:=n;unfold x2P at h;obtain ⟨hBl,dv,pv0,stv,av,qv,hc,hD, -, hst,hat,qa,qcap,rfl,h0,hps⟩:=h;obtain ⟨da,dcap,rfl, -⟩:=id hD;obtain ⟨sa,scap,rfl, -⟩:=id hst;obtain ⟨aa,acap,rfl, -⟩:=id hat;refine ⟨hBl,da,dcap,sa,scap,aa,acap,qa,qcap,fun w hb=> ?_,hD,hst,hat,fun hne=> ?_⟩
  . have k:=fun i (hi : i < 17)=>(hb.cell (p:=⟨B,i,none⟩) hBl).trans (hc i hi);exact ⟨k 0 (by omega),k 8 (by omega),k 9 (by omega),k 12 (by omega),k 14 (by omega),k 15 (by omega),k 16 (by omega)⟩
  . obtain ⟨b,o,ha,hb⟩:=h0 hne;refine ⟨b,o,ha,hb,fun i p hp=> ?_⟩;obtain ⟨m,Bm,h1,h2,h3⟩:=y6D (hps b o ha) i p hp;exact ⟨m,Bm,h1,fun w hw=>(hw.cell (p:=⟨b,o + i,none⟩) hb).trans h2,h3⟩
theorem val_D {s : Sh} {dm lv : Int} (hv : valS s dm lv = true) (h0 : 0 <= dm) : s.D.length <= 3:=by
  obtain ⟨D,P,t,g⟩:=s
  have:=(x4E hv).1
  show D.length <= 3;omega
def FnOk (w w' : World) (path : List Int) (e : Ending) : Option (Sh × Nd × Int × List Stp) -> Prop
  | some (s',n',off,st)=> ∃ x,e = .returned (.tuple #[x, .bool true]) /\ PlS (fun b=>w.heap.size <= b /\ b < w'.heap.size) w' x (plc s' n' path off st)
  | none=>e = .returned (.tuple #[plV (.slice none 0 0) (.slice none 0 0) 0 0 ty00, .bool false])
set_option maxRecDepth 100000 in
set_option maxHeartbeats 8000000 in
theorem find_any (s : Sh) (n : Nd) (B : Nat) (W w : World) (pv : Value) (path : List Int) (hN : x2P (fun b=>b < W.heap.size) W B s n) (hm : mpS s = some n) (hv : valS s 0 1 = true) (hok : okS s) (hB : Below W.heap.size W w) (hP : IntsAt w pv path) (hL : path.length <= 200) :
    Calls Tryz.prog 104 #[.pointer (some ⟨B, 0,none⟩),pv] w fun e w'=>FnOk w w' path e (fnd path s n n.u.s (stpN s n)) /\ Below w.heap.size w w':=by
  obtain ⟨pa,pcap,rfl⟩:=hP.form;obtain ⟨hBl,da,dcap,sa,scap,aa,acap,qa,qcap,hcw, -, -, -, -⟩:=z5W hN;obtain ⟨hga,hg1,hg2,hg3,hg4⟩:=x8K s 0 1 hv n hm;have hga2:=x3K hga;have hsl:=y0K hm;have hD10 : s.D.length <= 3:=val_D hv (by omega)
  have hsa:=fun w hB=>z4X s n B W w (.slice none 0 0) [] hN hm hB (StepsS.nil _ w) (by simp) (by omega)
  obtain ⟨F,hF⟩ : ∃ F,fnd path s n n.u.s (stpN s n) = F:=⟨_,rfl⟩;rw [hF];have hFH : Hid (fnd path s n n.u.s (stpN s n) = F):=hF;have hmH : Hid (mpS s = some n /\ valS s 0 1 = true /\ okS s):=⟨hm,hv,hok⟩;have hx0:=NB.here w (plC (.slice none 0 0) (.slice none 0 0) 0 0 ty00) 50;have hB1 : Below w.heap.size w (w.alloc (.cells (plC (.slice none 0 0) (.slice none 0 0) 0 0 ty00) 50)):=(Below.refl _ w).alloc (Nat.le_refl _) _;obtain ⟨c0,c8,c9,c12,c14,c15,c16⟩:=hcw _ (hB.trans (hB1.mono hB.size));obtain ⟨us,hus⟩ : ∃ us,n.u.s = us:=⟨_,rfl⟩;rw [hus] at c8 hg1 hg2 hFH;clear hF hm hv hok;have hBs : B < w.heap.size:=Nat.lt_of_lt_of_le hBl hB.size;go_enter Tryz.func104,Tryz.ntmps104
  go_upto_region 1 with fail
  generalize hw1 : w.alloc (.cells #[.slice none 0 0, .int .i64 0, .slice none 0 0, .int .i64 0, .int .i64 0, .int .i64 0, .int .i64 0, .bool false, .string ⟨#[]⟩] 50) = w1;have hB1 : Below w.heap.size w w1:=by
    rw [<- hw1];exact hB1
  have hsz1 : w1.heap.size = w.heap.size + 1:=by rw [<- hw1]; simp
  have hx1 : NB w1 w.heap.size (plC (.slice none 0 0) (.slice none 0 0) 0 0 ty00) 50:=by
    rw [<- hw1];exact hx0
  have hP1:=hP.below hB1;clear hx0 hw1 c0 c8 c9 c12 c14 c15 c16;obtain ⟨c0,c8,c9,c12,c14,c15,c16⟩:=hcw _ (hB.trans (hB1.mono hB.size));rw [hus] at c8;clear hus
  go_wp2_with (go_at_call 151; fail)
  refine (hsa _ (hB.trans (hB1.mono hB.size))).mono ?_;rintro e w2 ⟨⟨ov,rfl,hov⟩,hb⟩;rw [List.nil_append] at hov;have hP2:=hP1.below hb;have hx2:=hx1.below hb;have hb2 : Below (w.heap.size + 1) w1 w2:=hb.mono (by omega)
  have hov2:=x1G (S':=fun b=>w.heap.size < b /\ b < w2.heap.size) (fun b h=>by omega) (KeepS.refl _ _) hov
  clear hb hsa c0 c8 c9 c12 c14 c15 c16 hov hx1 hP1;go_wp2
  go_loopw [0, 6, 7, 19] (fun v0 v6 v7 v19 wr=> ∃ (k off : Int) (s' : Sh) (n' : Nd) (B' : Nat) (st : List Stp) (sv : Value) (dm lv : Int),v0 = .pointer (some ⟨B', 0,none⟩) /\ v6 = .int .i64 off /\ v7 = sv /\ v19 = .int .i64 k /\ 0 <= k /\ k <= path.length /\ 0 <= off /\ off <= 64 + k * 524352 /\ Hid (fnd (path.drop k.toNat) s' n' off st = F) /\ x2P (fun b=>b < W.heap.size) W B' s' n' /\ Hid (mpS s' = some n' /\ 0 <= dm /\ valS s' dm lv = true /\ okS s') /\ Hid ((st.length : Int) <= 3 * (k + 1)) /\ StepsS (fun b=>w.heap.size < b /\ b < wr.heap.size) wr sv st /\ IntsAt wr (.slice pa path.length pcap) path /\ NB wr w.heap.size (plC (.slice none 0 0) (.slice none 0 0) 0 0 ty00) 50 /\ Below (w.heap.size + 1) w1 wr) (fun _ _ _ vx _=>(path.length - intOf vx).toNat)
  case atStart=>exact ⟨0,us,s,n,B,stpN s n,ov, 0, 1,rfl,rfl,rfl,rfl,by omega,by omega,by omega,by omega,(show Hid _ from hFH.out),hN,(show Hid _ from ⟨hmH.out.1,by omega,hmH.out.2.1,hmH.out.2.2⟩),(show Hid _ from by show ((stpN s n).length : Int) <= _; omega),hov2,hP2,hx2,hb2⟩
  case round =>
    clear hN hmH hFH hov2 hP2 hx2 hb2 hcw hsl hD10;obtain ⟨k,off,s',n',B',st,sv,dm,lv,rfl,rfl,hv7,rfl,k0,k1,o0,o1,hF,hN,hm',hstl,hsv,hPr,hxr,hbr⟩:=hrel;obtain rfl:=hv7.symm;obtain ⟨hm,hdm,hv,hok⟩:=hm'.out;have hBw0 : Below w.heap.size w wr:=hB1.trans (hbr.mono (by omega))
    have hBw : Below W.heap.size W wr:=hB.trans (hBw0.mono hB.size);obtain ⟨hBl',da,dcap,sa,scap,aa,acap,qa,qcap,hcw, -, -, hat,hpt⟩:=z5W hN;obtain ⟨c0,c8,c9,c12,c14,c15,c16⟩:=hcw _ hBw;have hlen:=z6D hm;have hszr:=hbr.size;have hstl2:=hstl.out;obtain ⟨sva,svcap,rfl⟩:=hsv.form
    by_cases hlt : k < (path.length : Int)
    . obtain ⟨b1,o1',cap1,hv1,hbl1,hc1⟩:=hPr.at (i:=k.toNat) (by omega)
      cases hv1;have hdr : path.drop k.toNat = path.getD k.toNat 0 :: path.drop (k.toNat + 1):=by
        rw [List.drop_eq_getElem_cons (by omega)]
        congr 1;simp [show k.toNat < path.length by omega]
      have hFo:=hF.out;rw [hdr,fnd] at hFo;generalize path.getD k.toNat 0 = y at hc1 hFo
      by_cases hy0 : y < 0
      . rw [if_neg (by omega)] at hFo
        subst hFo;obtain ⟨z0,z1,z2,z3,z4,z5,z6,z7,z8,zf⟩:=x2W hxr;clear hstl hstl2 hlen hat hpt hcw hm' hF hdr;go_wp2;refine bodyPost_ret (v:= .tuple #[plV (.slice none 0 0) (.slice none 0 0) 0 0 ty00, .bool false]) (by rw [results_cell_tmp rfl]; go_simp; exact ⟨rfl,rfl,rfl,rfl,rfl⟩) rfl ⟨rfl,x2C hBw0 (Nat.le_refl _)⟩
      . by_cases hy1 : (s'.P.length : Int) <= y
        . rw [if_neg (by omega)] at hFo
          subst hFo;obtain ⟨z0,z1,z2,z3,z4,z5,z6,z7,z8,zf⟩:=x2W hxr;clear hstl hstl2 hlen hat hpt hcw hm' hF hdr;go_wp2;refine bodyPost_ret (v:= .tuple #[plV (.slice none 0 0) (.slice none 0 0) 0 0 ty00, .bool false]) (by rw [results_cell_tmp rfl]; go_simp; exact ⟨rfl,rfl,rfl,rfl,rfl⟩) rfl ⟨rfl,x2C hBw0 (Nat.le_refl _)⟩
        . rw [if_pos (by omega)] at hFo
          obtain ⟨b2,o2,rfl,hbl2,hpts⟩:=hpt (by intro h; rw [h] at hy1; simp at hy1; omega)
          obtain ⟨p,hp⟩ : ∃ p,s'.P[y.toNat]? = some p:=⟨_,List.getElem?_eq_getElem (by omega)⟩
          obtain ⟨m,Bm,hpm,hpc,hNm⟩:=hpts y.toNat p hp;obtain ⟨m2,hpm2,hmp⟩:=hlen.2.2.2 y.toNat p hp;rw [hpm] at hpm2;cases hpm2;obtain ⟨b3,o3,cap3,hv3,hbl3,hc3⟩:=u5V hat (i:=y.toNat) (by omega)
          cases hv3;have hst:=(KeepS.below hBw (S:=fun b=>b < W.heap.size) fun _ h=>h).cell (b:=b3) (i:=o3 + y.toNat) hbl3;rw [hc3] at hst;obtain ⟨a,ha⟩ : ∃ a,n'.at'[y.toNat]? = some a:=⟨_,List.getElem?_eq_getElem (by omega)⟩
          have hag : n'.at'.getD y.toNat 0 = a:=by rw [List.getD_eq_getElem?_getD,ha]; rfl
          rw [hag] at hst;have hab:=mp_at hv hm a (List.mem_of_getElem? ha);rw [hp,hpm,ha] at hFo;simp only at hFo;have hvp:=u3Y hv hp;have hokp:=ok_part hok hp;have hDp : p.D.length <= 3:=val_D hvp (by omega)
          have hlp:=y0K hmp;have hpw:=hpc _ hBw;have hsa:=fun w hB hS=>z4X p m Bm W w (.slice sva st.length svcap) st hNm hmp hB hS (by omega) (by omega)
          have hFn : Hid (fnd (path.drop (k + 1).toNat) p m (off + a) (st ++ stpN p m) = F):=by
            show _ = _;rw [show (k + 1).toNat = k.toNat + 1 by omega]
            exact hFo
          have hmn : Hid (mpS p = some m /\ 0 <= dm + (s'.D.length : Int) /\ valS p (dm + s'.D.length) (lv + 1) = true /\ okS p):=⟨hmp,by omega,hvp,hokp⟩
          have hyb : y < (n'.at'.length : Int):=by omega
          have hy0' : 0 <= y:=by omega
          have hsn : Hid (((st ++ stpN p m).length : Int) <= 3 * (k + 1 + 1)):=by
            show _ <= _;rw [List.length_append,hlp];omega
          clear hstl hlen hat hpts hcw hm' hF hdr hFo hm hv hok hp hpm hmp ha hag hc3 hvp hokp hDp hlp hpc hN
          go_wp2_with (go_at_call 151; fail)
          refine (hsa _ hBw (x1G (fun b h=>h.2) (KeepS.refl _ _) hsv)).mono ?_;rintro e w3 ⟨⟨ov,rfl,hov⟩,hb⟩;have hsz3:=hb.size;have hov3:=x1G (S':=fun b=>w.heap.size < b /\ b < w3.heap.size) (fun b h=>by omega) (KeepS.refl _ _) hov
          have hP3:=hPr.below hb;have hx3:=hxr.below hb;have hb3:=hbr.trans (hb.mono (show w.heap.size + 1 <= wr.heap.size by omega))
          clear hb hsa hov c0 c8 c9 c12 c14 c15 c16 hst hpw;go_wp2
          go_roundw
          case rel=>exact ⟨k + 1,off + a,p,m,Bm,st ++ stpN p m,_,dm + s'.D.length,lv + 1,rfl,rfl,rfl,rfl,by omega,by omega,by omega,by omega,hFn,hNm,hmn,hsn,hov3,hP3,hx3,hb3⟩
          case measure=>simp [intOf]; omega
    . have hke : k = path.length:=by omega
      have hFo:=hF.out;rw [hke,show ((path.length : Int)).toNat = path.length by omega,List.drop_length,fnd] at hFo
      subst hFo;subst hke;have hpl:=fun w hB hP=>v3D s' n' B' W w (.slice pa path.length pcap) (.slice sva st.length svcap) path off hN hB hP ⟨_,_,_,rfl⟩ (by omega)
      clear hstl hlen hat hpt hcw hm' hF hm hv hok
      go_wp2_with (go_at_call 152; fail)
      refine (hpl _ hBw hPr).mono ?_;rintro e w3 ⟨⟨pv',rfl,hpv⟩,hb⟩;have hsz3:=hb.size;have hx3:=hxr.below hb;have hB3:=hBw0.trans (hb.mono hBw0.size);have hsv3:=x1G (S':=fun b=>w.heap.size < b /\ b < w3.heap.size) (fun b h=>by omega) (KeepS.below hb fun b h=>h.2) hsv
      have hpv3:=x1W (S':=fun b=>w.heap.size < b /\ b < w3.heap.size) (fun b h=>by omega) (KeepS.refl _ _) hpv
      obtain ⟨va,vcap,rfl, -⟩:=id hpv3;obtain ⟨T,hT⟩ : ∃ T,cond s'.P.isEmpty s'.t ty00 = T:=⟨_,rfl⟩;have hTH : Hid (cond s'.P.isEmpty s'.t ty00 = T):=hT;rw [hT];obtain ⟨eb,heb⟩ : ∃ eb,n'.e.b = eb:=⟨_,rfl⟩;have hebH : Hid (n'.e.b = eb):=heb;rw [heb];obtain ⟨z0,z1,z2,z3,z4,z5,z6,z7,z8,zf⟩:=x2W hx3;clear hb hpl hpv c0 c8 c9 c12 c14 c15 c16 hT heb hsv hPr hxr hbr;go_wp2;refine bodyPost_ret (v:= .tuple #[plV (.slice va path.length vcap) (.slice sva st.length svcap) off eb T, .bool true]) (by rw [results_cell_tmp rfl]; go_simp) rfl ⟨⟨_,rfl, ?_⟩,x2C hB3 (Nat.le_refl _)⟩
      have hk9:=x8M (B:=w.heap.size) (y0:= .slice va path.length vcap) (y1:= .int .i64 off) (y2:= .slice sva st.length svcap) (y3:= .int .i64 eb) (y4:= .int .i64 T.k) (y5:= .int .i64 T.p) (y6:= .int .i64 T.q) (y7:= .bool T.v) (y8:= .string T.pic) (KeepS.refl (fun b=>w.heap.size < b /\ b < w3.heap.size) w3) (fun h=>by omega)
      have h9:=hk9.1;exact ⟨_,_,by rw [plc,hebH.out,hTH.out],x1W (fun b h=>by omega) hk9 hpv3,x1G (fun b h=>by omega) hk9 hsv3⟩
end Go.Proofs
